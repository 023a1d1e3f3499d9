/- Inverse of an object's op, on both sides; BACK: the plain law. -/
import Derived.Test.YteggenihjhclkaaOp
set_option maxRecDepth 16000
set_option linter.unusedVariables false
set_option linter.unusedSimpArgs false
namespace Go.Proofs.Yteggenihjhclkaa
open Go.RowKit Go.Maps
open Lg (Nm nmOf arr_nm nm_len)
variable {w0 w w' W W' : World} {b m c : Nat} {P Q R : PS}
/-- The op that takes back one that was done. -/
def oinv (o : OOp) (gone : ByteArray) : OOp :=
  if o.k = 1 then (if o.tk = 1 then ⟨1, 2, o.ta, ⟨#[]⟩, (o.ts.size : Int), 0, ⟨#[]⟩, ⟨#[]⟩, 0, 0, ⟨#[]⟩, 0⟩ else ⟨1, 1, o.ta, gone, 0, 0, ⟨#[]⟩, ⟨#[]⟩, 0, 0, ⟨#[]⟩, 0⟩)
  else if o.k = 2 then (if o.lk = 3 then ⟨2, 0, 0, ⟨#[]⟩, 0, 3, o.lt, o.ln, o.la, 0, ⟨#[]⟩, 0⟩ else ⟨2, 0, 0, ⟨#[]⟩, 0, 3 - o.lk, o.ln, ⟨#[]⟩, 0, 0, ⟨#[]⟩, 0⟩)
  else ⟨3, 0, 0, ⟨#[]⟩, 0, 0, ⟨#[]⟩, ⟨#[]⟩, 0, 3 - o.sk, o.sn, o.sN⟩
/-- The kinds of an op that was done. -/
def OKd (o : OOp) : Prop := (o.k = 1 ∧ (o.tk = 1 ∨ o.tk = 2)) ∨ (o.k = 2 ∧ (o.lk = 1 ∨ o.lk = 2 ∨ o.lk = 3)) ∨ (o.k = 3 ∧ (o.sk = 1 ∨ o.sk = 2))
theorem okd_of (P : PS) (o : OOp) (h : P.err o = 0) : OKd o := by
  cases P with
  | tx s =>
    unfold PS.err at h
    dsimp only at h
    by_cases hk : o.k = 1
    · rw [if_pos hk] at h
      refine .inl ⟨hk, ?_⟩
      unfold Tx.dDo at h
      by_cases hc : Tx.chk o.tk o.ta o.ts o.tn = 0
      · exact Tx.chk_kind hc
      · rw [if_pos hc] at h; exact absurd h hc
    · rw [if_neg hk] at h; cases h
  | lg C K =>
    unfold PS.err at h
    dsimp only at h
    by_cases hk : o.k = 2
    · rw [if_pos hk] at h
      have h1 := Lg.chk_ok (Lg.doE_ok h).1
      have e1 : 1 ≤ o.lk := h1.1
      have e2 : o.lk ≤ 3 := h1.2.1
      exact .inr (.inl ⟨hk, by omega⟩)
    · rw [if_neg hk] at h; cases h
  | sk C K =>
    unfold PS.err at h
    dsimp only at h
    by_cases hk : o.k = 3
    · rw [if_pos hk] at h
      exact .inr (.inr ⟨hk, (Sk.doE_ok h).1⟩)
    · rw [if_neg hk] at h; cases h
/-- BACK. -/
theorem backP (hok : P.ok) (o : OOp) (h : P.err o = 0) : (P.nxt o).err (oinv o (P.gone o)) = 0 ∧ P.eqv ((P.nxt o).nxt (oinv o (P.gone o))) := by
  cases P with
  | tx s =>
    have hk : o.k = 1 := by
      unfold PS.err at h
      dsimp only at h
      by_cases hk : o.k = 1
      · exact hk
      · rw [if_neg hk] at h; cases h
    have e0 : (PS.tx s).err o = (Tx.dOp s ⟨o.tk, o.ta, o.ts, o.tn⟩).2.2 := by unfold PS.err; dsimp only; rw [if_pos hk]; rfl
    rw [e0] at h
    have hb := Tx.dOp_back s ⟨o.tk, o.ta, o.ts, o.tn⟩ hok h
    have e1 : (PS.tx s).nxt o = .tx (Tx.dOp s ⟨o.tk, o.ta, o.ts, o.tn⟩).1 := by unfold PS.nxt; dsimp only; rw [if_pos hk]; rfl
    have e2 : (PS.tx s).gone o = (Tx.dOp s ⟨o.tk, o.ta, o.ts, o.tn⟩).2.1 := by unfold PS.gone; dsimp only; rw [if_pos hk]; rfl
    rw [e1, e2]
    obtain ⟨G, hG⟩ : ∃ G, (Tx.dOp s ⟨o.tk, o.ta, o.ts, o.tn⟩).2.1 = G := ⟨_, rfl⟩
    obtain ⟨S, hS⟩ : ∃ S, (Tx.dOp s ⟨o.tk, o.ta, o.ts, o.tn⟩).1 = S := ⟨_, rfl⟩
    rw [hG, hS] at hb
    rw [hG, hS]
    have hi : oinv o G = ⟨1, (Tx.inv ⟨o.tk, o.ta, o.ts, o.tn⟩ G).k, (Tx.inv ⟨o.tk, o.ta, o.ts, o.tn⟩ G).p, (Tx.inv ⟨o.tk, o.ta, o.ts, o.tn⟩ G).S, (Tx.inv ⟨o.tk, o.ta, o.ts, o.tn⟩ G).n, 0, ⟨#[]⟩, ⟨#[]⟩, 0, 0, ⟨#[]⟩, 0⟩ := by
      unfold oinv Tx.inv
      rw [if_pos hk]
      dsimp only
      split <;> rfl
    rw [hi]
    refine ⟨?_, ?_⟩
    · show (if (1 : Int) = 1 then (Tx.dOp S (Tx.inv ⟨o.tk, o.ta, o.ts, o.tn⟩ G)).2.2 else 5) = 0
      rw [if_pos rfl]; exact hb.2.1
    · show PS.eqv (.tx s) (if (1 : Int) = 1 then .tx (Tx.dOp S (Tx.inv ⟨o.tk, o.ta, o.ts, o.tn⟩ G)).1 else .tx S)
      rw [if_pos rfl, hb.1]; exact PS.eqv.refl _
  | lg C K =>
    have hk : o.k = 2 := by
      unfold PS.err at h
      dsimp only at h
      by_cases hk : o.k = 2
      · exact hk
      · rw [if_neg hk] at h; cases h
    have e0 : (PS.lg C K).err o = Lg.doE C K (lgOp o) := by unfold PS.err; dsimp only; rw [if_pos hk]
    rw [e0] at h
    have e1 : (PS.lg C K).nxt o = .lg (Lg.newC C (lgOp o)) (Lg.newK K (lgOp o)) := by unfold PS.nxt Lg.doC Lg.doK; dsimp only; rw [if_pos hk, if_pos h, if_pos h]
    obtain ⟨h1, h2, h3⟩ := Lg.inv_back hok.1 h _ (List.Perm.refl _)
    have hl := Lg.chk_ok (Lg.doE_ok h).1
    have l1 : 1 ≤ o.lk := hl.1
    have l2 : o.lk ≤ 3 := hl.2.1
    have hi : lgOp (oinv o ((PS.lg C K).gone o)) = Lg.inv (lgOp o) ∧ (oinv o ((PS.lg C K).gone o)).k = 2 := by
      unfold oinv
      rw [if_neg (by omega), if_pos hk]
      rcases (by omega : o.lk = 1 ∨ o.lk = 2 ∨ o.lk = 3) with e | e | e
      · rw [if_neg (by omega)]
        refine ⟨?_, rfl⟩
        unfold Lg.inv lgOp
        dsimp only
        rw [if_pos e, e]
        simp [nmOf]
      · rw [if_neg (by omega)]
        refine ⟨?_, rfl⟩
        unfold Lg.inv lgOp
        dsimp only
        rw [if_neg (by omega), if_pos e, e]
        simp [nmOf]
      · rw [if_pos e]
        refine ⟨?_, rfl⟩
        unfold Lg.inv lgOp
        dsimp only
        rw [if_neg (by omega), if_neg (by omega)]
    rw [e1]
    obtain ⟨I, hI⟩ : ∃ I, oinv o ((PS.lg C K).gone o) = I := ⟨_, rfl⟩
    rw [hI] at hi ⊢
    rw [← hi.1] at h1 h2 h3
    refine ⟨?_, ?_⟩
    · unfold PS.err; dsimp only; rw [if_pos hi.2]; exact h1
    · have e2 : (PS.lg (Lg.newC C (lgOp o)) (Lg.newK K (lgOp o))).nxt I = .lg C (Lg.newK (Lg.newK K (lgOp o)) (lgOp I)) := by unfold PS.nxt Lg.doC Lg.doK; dsimp only; rw [if_pos hi.2, if_pos h1, if_pos h1, h2]
      rw [e2]
      exact ⟨rfl, h3⟩
  | sk C K =>
    have hk : o.k = 3 := by
      unfold PS.err at h
      dsimp only at h
      by_cases hk : o.k = 3
      · exact hk
      · rw [if_neg hk] at h; cases h
    have e0 : (PS.sk C K).err o = Sk.doE C K (skOp o) := by unfold PS.err; dsimp only; rw [if_pos hk]
    rw [e0] at h
    have e1 : (PS.sk C K).nxt o = .sk (Sk.newC C (skOp o)) (Sk.newK C K (skOp o)) := by unfold PS.nxt Sk.doC Sk.doK; dsimp only; rw [if_pos hk, if_pos h, if_pos h]
    have g1 := Sk.Good.put hok h
    obtain ⟨h1, h2⟩ := Sk.inv_back hok h _ g1
    have hi : skOp (oinv o ((PS.sk C K).gone o)) = Sk.inv (skOp o) ∧ (oinv o ((PS.sk C K).gone o)).k = 3 := by
      unfold oinv
      rw [if_neg (by omega), if_neg (by omega)]
      exact ⟨rfl, rfl⟩
    rw [e1]
    obtain ⟨I, hI⟩ : ∃ I, oinv o ((PS.sk C K).gone o) = I := ⟨_, rfl⟩
    rw [hI] at hi ⊢
    rw [← hi.1] at h1 h2
    refine ⟨?_, ?_⟩
    · unfold PS.err; dsimp only; rw [if_pos hi.2]; exact h1
    · have g2 := Sk.Good.put g1 h1
      have e2 : (PS.sk (Sk.newC C (skOp o)) (Sk.newK C K (skOp o))).nxt I = .sk C (Sk.newK (Sk.newC C (skOp o)) (Sk.newK C K (skOp o)) (skOp I)) := by unfold PS.nxt Sk.doC Sk.doK; dsimp only; rw [if_pos hi.2, if_pos h1, if_pos h1, h2]
      rw [e2]
      rw [h2] at g2
      exact ⟨rfl, g2.perm hok⟩
set_option maxHeartbeats 8000000 in
theorem refinv_any (o : OOp) (gone : ByteArray) (h : OKd o) (w : World) : Calls Try.prog 15 #[.agg (opC o), .string gone] w fun e w' => e = .returned (.agg (opC (oinv o gone))) ∧ Turn Nope w w' := by
  obtain ⟨k, tk, ta, ts, tn, lk, ln, lt, la, sk, sn, sN⟩ := o
  rcases h with ⟨hk, h⟩ | ⟨hk, h⟩ | ⟨hk, h⟩
  · obtain rfl : k = 1 := hk
    rcases h with h | h
    · obtain rfl : tk = 1 := h
      show Calls Try.prog 15 #[.agg #[.int .i64 1, .int .i64 1, .int .i64 ta, .string ts, .int .i64 tn, .int .i64 lk, .string ln, .string lt, .int .i64 la, .int .i64 sk, .string sn, .int .i64 sN], .string gone] w fun e w' => e = .returned (.agg #[.int .i64 1, .int .i64 2, .int .i64 ta, .string ⟨#[]⟩, .int .i64 (ts.size : Int), .int .i64 0, .string ⟨#[]⟩, .string ⟨#[]⟩, .int .i64 0, .int .i64 0, .string ⟨#[]⟩, .int .i64 0]) ∧ Turn Nope w w'
      go_enter Try.func15, Try.ntmps15
      go_wp2_with fail
      exact bodyPost_ret (v := .agg #[.int .i64 1, .int .i64 2, .int .i64 ta, .string ⟨#[]⟩, .int .i64 (ts.size : Int), .int .i64 0, .string ⟨#[]⟩, .string ⟨#[]⟩, .int .i64 0, .int .i64 0, .string ⟨#[]⟩, .int .i64 0]) (by simp [results, Try.results15, go_sem]) rfl ⟨rfl, by repeat (first | exact Turn.refl _ _ | apply Turn.alloc)⟩
    · obtain rfl : tk = 2 := h
      show Calls Try.prog 15 #[.agg #[.int .i64 1, .int .i64 2, .int .i64 ta, .string ts, .int .i64 tn, .int .i64 lk, .string ln, .string lt, .int .i64 la, .int .i64 sk, .string sn, .int .i64 sN], .string gone] w fun e w' => e = .returned (.agg #[.int .i64 1, .int .i64 1, .int .i64 ta, .string gone, .int .i64 0, .int .i64 0, .string ⟨#[]⟩, .string ⟨#[]⟩, .int .i64 0, .int .i64 0, .string ⟨#[]⟩, .int .i64 0]) ∧ Turn Nope w w'
      go_enter Try.func15, Try.ntmps15
      go_wp2_with fail
      exact bodyPost_ret (v := .agg #[.int .i64 1, .int .i64 1, .int .i64 ta, .string gone, .int .i64 0, .int .i64 0, .string ⟨#[]⟩, .string ⟨#[]⟩, .int .i64 0, .int .i64 0, .string ⟨#[]⟩, .int .i64 0]) (by simp [results, Try.results15, go_sem]) rfl ⟨rfl, by repeat (first | exact Turn.refl _ _ | apply Turn.alloc)⟩
  · obtain rfl : k = 2 := hk
    rcases h with h | h | h
    · obtain rfl : lk = 1 := h
      show Calls Try.prog 15 #[.agg #[.int .i64 2, .int .i64 tk, .int .i64 ta, .string ts, .int .i64 tn, .int .i64 1, .string ln, .string lt, .int .i64 la, .int .i64 sk, .string sn, .int .i64 sN], .string gone] w fun e w' => e = .returned (.agg #[.int .i64 2, .int .i64 0, .int .i64 0, .string ⟨#[]⟩, .int .i64 0, .int .i64 2, .string ln, .string ⟨#[]⟩, .int .i64 0, .int .i64 0, .string ⟨#[]⟩, .int .i64 0]) ∧ Turn Nope w w'
      go_enter Try.func15, Try.ntmps15
      go_wp2_with fail
      exact bodyPost_ret (v := .agg #[.int .i64 2, .int .i64 0, .int .i64 0, .string ⟨#[]⟩, .int .i64 0, .int .i64 2, .string ln, .string ⟨#[]⟩, .int .i64 0, .int .i64 0, .string ⟨#[]⟩, .int .i64 0]) (by simp [results, Try.results15, go_sem]) rfl ⟨rfl, by repeat (first | exact Turn.refl _ _ | apply Turn.alloc)⟩
    · obtain rfl : lk = 2 := h
      show Calls Try.prog 15 #[.agg #[.int .i64 2, .int .i64 tk, .int .i64 ta, .string ts, .int .i64 tn, .int .i64 2, .string ln, .string lt, .int .i64 la, .int .i64 sk, .string sn, .int .i64 sN], .string gone] w fun e w' => e = .returned (.agg #[.int .i64 2, .int .i64 0, .int .i64 0, .string ⟨#[]⟩, .int .i64 0, .int .i64 1, .string ln, .string ⟨#[]⟩, .int .i64 0, .int .i64 0, .string ⟨#[]⟩, .int .i64 0]) ∧ Turn Nope w w'
      go_enter Try.func15, Try.ntmps15
      go_wp2_with fail
      exact bodyPost_ret (v := .agg #[.int .i64 2, .int .i64 0, .int .i64 0, .string ⟨#[]⟩, .int .i64 0, .int .i64 1, .string ln, .string ⟨#[]⟩, .int .i64 0, .int .i64 0, .string ⟨#[]⟩, .int .i64 0]) (by simp [results, Try.results15, go_sem]) rfl ⟨rfl, by repeat (first | exact Turn.refl _ _ | apply Turn.alloc)⟩
    · obtain rfl : lk = 3 := h
      show Calls Try.prog 15 #[.agg #[.int .i64 2, .int .i64 tk, .int .i64 ta, .string ts, .int .i64 tn, .int .i64 3, .string ln, .string lt, .int .i64 la, .int .i64 sk, .string sn, .int .i64 sN], .string gone] w fun e w' => e = .returned (.agg #[.int .i64 2, .int .i64 0, .int .i64 0, .string ⟨#[]⟩, .int .i64 0, .int .i64 3, .string lt, .string ln, .int .i64 la, .int .i64 0, .string ⟨#[]⟩, .int .i64 0]) ∧ Turn Nope w w'
      go_enter Try.func15, Try.ntmps15
      go_wp2_with fail
      exact bodyPost_ret (v := .agg #[.int .i64 2, .int .i64 0, .int .i64 0, .string ⟨#[]⟩, .int .i64 0, .int .i64 3, .string lt, .string ln, .int .i64 la, .int .i64 0, .string ⟨#[]⟩, .int .i64 0]) (by simp [results, Try.results15, go_sem]) rfl ⟨rfl, by repeat (first | exact Turn.refl _ _ | apply Turn.alloc)⟩
  · obtain rfl : k = 3 := hk
    rcases h with h | h
    · obtain rfl : sk = 1 := h
      show Calls Try.prog 15 #[.agg #[.int .i64 3, .int .i64 tk, .int .i64 ta, .string ts, .int .i64 tn, .int .i64 lk, .string ln, .string lt, .int .i64 la, .int .i64 1, .string sn, .int .i64 sN], .string gone] w fun e w' => e = .returned (.agg #[.int .i64 3, .int .i64 0, .int .i64 0, .string ⟨#[]⟩, .int .i64 0, .int .i64 0, .string ⟨#[]⟩, .string ⟨#[]⟩, .int .i64 0, .int .i64 2, .string sn, .int .i64 sN]) ∧ Turn Nope w w'
      go_enter Try.func15, Try.ntmps15
      go_wp2_with fail
      exact bodyPost_ret (v := .agg #[.int .i64 3, .int .i64 0, .int .i64 0, .string ⟨#[]⟩, .int .i64 0, .int .i64 0, .string ⟨#[]⟩, .string ⟨#[]⟩, .int .i64 0, .int .i64 2, .string sn, .int .i64 sN]) (by simp [results, Try.results15, go_sem]) rfl ⟨rfl, by repeat (first | exact Turn.refl _ _ | apply Turn.alloc)⟩
    · obtain rfl : sk = 2 := h
      show Calls Try.prog 15 #[.agg #[.int .i64 3, .int .i64 tk, .int .i64 ta, .string ts, .int .i64 tn, .int .i64 lk, .string ln, .string lt, .int .i64 la, .int .i64 2, .string sn, .int .i64 sN], .string gone] w fun e w' => e = .returned (.agg #[.int .i64 3, .int .i64 0, .int .i64 0, .string ⟨#[]⟩, .int .i64 0, .int .i64 0, .string ⟨#[]⟩, .string ⟨#[]⟩, .int .i64 0, .int .i64 1, .string sn, .int .i64 sN]) ∧ Turn Nope w w'
      go_enter Try.func15, Try.ntmps15
      go_wp2_with fail
      exact bodyPost_ret (v := .agg #[.int .i64 3, .int .i64 0, .int .i64 0, .string ⟨#[]⟩, .int .i64 0, .int .i64 0, .string ⟨#[]⟩, .string ⟨#[]⟩, .int .i64 0, .int .i64 1, .string sn, .int .i64 sN]) (by simp [results, Try.results15, go_sem]) rfl ⟨rfl, by repeat (first | exact Turn.refl _ _ | apply Turn.alloc)⟩
theorem ledinv_any1 (ln lt : ByteArray) (la : Int) (w : World) : Calls Try.prog 31 #[.agg #[.int .i64 1, .string ln, .string lt, .int .i64 la]] w fun e w' => e = .returned (.agg #[.int .i64 2, .string ln, .string ⟨#[]⟩, .int .i64 0]) ∧ Turn Nope w w' := by
  refine (Lg.inv_any 1 (by decide) ln lt la w).mono ?_
  rintro e w' ⟨rfl, ht⟩
  refine ⟨?_, ht⟩
  show Ending.returned (.agg #[.int .i64 2, .string ⟨(nmOf ln).toArray⟩, .string ⟨[].toArray⟩, .int .i64 0]) = _
  rw [arr_nm]
theorem ledinv_any2 (ln lt : ByteArray) (la : Int) (w : World) : Calls Try.prog 31 #[.agg #[.int .i64 2, .string ln, .string lt, .int .i64 la]] w fun e w' => e = .returned (.agg #[.int .i64 1, .string ln, .string ⟨#[]⟩, .int .i64 0]) ∧ Turn Nope w w' := by
  refine (Lg.inv_any 2 (by decide) ln lt la w).mono ?_
  rintro e w' ⟨rfl, ht⟩
  refine ⟨?_, ht⟩
  show Ending.returned (.agg #[.int .i64 1, .string ⟨(nmOf ln).toArray⟩, .string ⟨[].toArray⟩, .int .i64 0]) = _
  rw [arr_nm]
theorem ledinv_any3 (ln lt : ByteArray) (la : Int) (w : World) : Calls Try.prog 31 #[.agg #[.int .i64 3, .string ln, .string lt, .int .i64 la]] w fun e w' => e = .returned (.agg #[.int .i64 3, .string lt, .string ln, .int .i64 la]) ∧ Turn Nope w w' := by
  refine (Lg.inv_any 3 (by decide) ln lt la w).mono ?_
  rintro e w' ⟨rfl, ht⟩
  refine ⟨?_, ht⟩
  show Ending.returned (.agg #[.int .i64 3, .string ⟨(nmOf lt).toArray⟩, .string ⟨(nmOf ln).toArray⟩, .int .i64 la]) = _
  rw [arr_nm, arr_nm]
theorem stkinv_any1 (sn : ByteArray) (sN : Int) (w : World) : Calls Try.prog 32 #[.agg #[.int .i64 1, .string sn, .int .i64 sN]] w fun e w' => e = .returned (.agg #[.int .i64 2, .string sn, .int .i64 sN]) ∧ Turn Nope w w' :=
  Sk.inv_any 1 (by decide) sn sN w
theorem stkinv_any2 (sn : ByteArray) (sN : Int) (w : World) : Calls Try.prog 32 #[.agg #[.int .i64 2, .string sn, .int .i64 sN]] w fun e w' => e = .returned (.agg #[.int .i64 1, .string sn, .int .i64 sN]) ∧ Turn Nope w w' :=
  Sk.inv_any 2 (by decide) sn sN w
theorem far12b {g c : Nat} {x : Obj} (h : w.heap[g]? = some x) (hne : g ≠ c) (v0 v1 v2 v3 v4 v5 v6 v7 v8 v9 v10 v11 : Value) : ((((((((((((w.setCell ⟨c, 0, none⟩ v0).setCell ⟨c, 1, none⟩ v1).setCell ⟨c, 2, none⟩ v2).setCell ⟨c, 3, none⟩ v3).setCell ⟨c, 4, none⟩ v4).setCell ⟨c, 5, none⟩ v5).setCell ⟨c, 6, none⟩ v6).setCell ⟨c, 7, none⟩ v7).setCell ⟨c, 8, none⟩ v8).setCell ⟨c, 9, none⟩ v9).setCell ⟨c, 10, none⟩ v10).setCell ⟨c, 11, none⟩ v11).heap[g]? = some x := (blk_far (p := ⟨c, 11, none⟩) (blk_far (p := ⟨c, 10, none⟩) (blk_far (p := ⟨c, 9, none⟩) (blk_far (p := ⟨c, 8, none⟩) (blk_far (p := ⟨c, 7, none⟩) (blk_far (p := ⟨c, 6, none⟩) (blk_far (p := ⟨c, 5, none⟩) (blk_far (p := ⟨c, 4, none⟩) (blk_far (p := ⟨c, 3, none⟩) (blk_far (p := ⟨c, 2, none⟩) (blk_far (p := ⟨c, 1, none⟩) (blk_far (p := ⟨c, 0, none⟩) h hne v0) hne v1) hne v2) hne v3) hne v4) hne v5) hne v6) hne v7) hne v8) hne v9) hne v10) hne v11)
set_option maxHeartbeats 8000000 in
theorem inv_t1 (tk ta : Int) (ts : ByteArray) (tn lk : Int) (ln lt : ByteArray) (la sk : Int) (sn : ByteArray) (sN : Int) (er : Int) (gone : ByteArray) (w : World) : Calls Try.prog 14 #[.agg #[.int .i64 1, .int .i64 1, .int .i64 ta, .string ts, .int .i64 tn, .int .i64 lk, .string ln, .string lt, .int .i64 la, .int .i64 sk, .string sn, .int .i64 sN], .agg #[.int .i64 er, .string gone]] w fun e w' => e = .returned (.agg #[.int .i64 1, .int .i64 2, .int .i64 ta, .string ⟨#[]⟩, .int .i64 (ts.size : Int), .int .i64 0, .string ⟨#[]⟩, .string ⟨#[]⟩, .int .i64 0, .int .i64 0, .string ⟨#[]⟩, .int .i64 0]) ∧ Turn Nope w w' := by
  go_enter Try.func14, Try.ntmps14
  go_wp2_with fail
  have T0 : Hid (Turn Nope w (((w.alloc (.cells #[.int .i64 1, .int .i64 1, .int .i64 ta, .string ts, .int .i64 tn, .int .i64 lk, .string ln, .string lt, .int .i64 la, .int .i64 sk, .string sn, .int .i64 sN] 30)).alloc (.cells #[.int .i64 er, .string gone] 47)).alloc (.cells #[.int .i64 0, .int .i64 0, .int .i64 0, .string ⟨#[]⟩, .int .i64 0, .int .i64 0, .string ⟨#[]⟩, .string ⟨#[]⟩, .int .i64 0, .int .i64 0, .string ⟨#[]⟩, .int .i64 0] 30))) := (((Turn.refl _ _).alloc _).alloc _).alloc _
  have BR := Lib.hid (blk3 w (.cells #[.int .i64 1, .int .i64 1, .int .i64 ta, .string ts, .int .i64 tn, .int .i64 lk, .string ln, .string lt, .int .i64 la, .int .i64 sk, .string sn, .int .i64 sN] 30) (.cells #[.int .i64 er, .string gone] 47) (.cells #[.int .i64 0, .int .i64 0, .int .i64 0, .string ⟨#[]⟩, .int .i64 0, .int .i64 0, .string ⟨#[]⟩, .string ⟨#[]⟩, .int .i64 0, .int .i64 0, .string ⟨#[]⟩, .int .i64 0] 30))
  have BO : Hid ((((w.alloc (.cells #[.int .i64 1, .int .i64 1, .int .i64 ta, .string ts, .int .i64 tn, .int .i64 lk, .string ln, .string lt, .int .i64 la, .int .i64 sk, .string sn, .int .i64 sN] 30)).alloc (.cells #[.int .i64 er, .string gone] 47)).alloc (.cells #[.int .i64 0, .int .i64 0, .int .i64 0, .string ⟨#[]⟩, .int .i64 0, .int .i64 0, .string ⟨#[]⟩, .string ⟨#[]⟩, .int .i64 0, .int .i64 0, .string ⟨#[]⟩, .int .i64 0] 30)).heap[w.heap.size]? = some (.cells #[.int .i64 1, .int .i64 1, .int .i64 ta, .string ts, .int .i64 tn, .int .i64 lk, .string ln, .string lt, .int .i64 la, .int .i64 sk, .string sn, .int .i64 sN] 30 (0, 0))) := blk_alloc (blk_alloc (blk_new _ _) _) _
  generalize ((w.alloc (.cells #[.int .i64 1, .int .i64 1, .int .i64 ta, .string ts, .int .i64 tn, .int .i64 lk, .string ln, .string lt, .int .i64 la, .int .i64 sk, .string sn, .int .i64 sN] 30)).alloc (.cells #[.int .i64 er, .string gone] 47)).alloc (.cells #[.int .i64 0, .int .i64 0, .int .i64 0, .string ⟨#[]⟩, .int .i64 0, .int .i64 0, .string ⟨#[]⟩, .string ⟨#[]⟩, .int .i64 0, .int .i64 0, .string ⟨#[]⟩, .int .i64 0] 30) = w1 at T0 BR BO ⊢
  have HG : Hid (w.heap.size ≤ w.heap.size + 1 + 1 ∧ w.heap.size + 1 + 1 ≠ w.heap.size) := ⟨by omega, by omega⟩
  generalize hgr : w.heap.size + 1 + 1 = gr at BR HG ⊢
  refine (Tx.inv_ins ta ts gone tn w1).mono ?_
  rintro e w2 ⟨rfl, ht⟩
  have BR2 := Lib.hid (ht.blk BR.out fun h => h)
  have T2 := Lib.hid (T0.out.trans ht)
  clear ht BR T0 BO
  obtain ⟨c0, c1, c2, c3, c4, c5, c6, c7, c8, c9, c10, c11⟩ : w2.cell? ⟨gr, 0, none⟩ = some (.int .i64 0) ∧ w2.cell? ⟨gr, 1, none⟩ = some (.int .i64 0) ∧ w2.cell? ⟨gr, 2, none⟩ = some (.int .i64 0) ∧ w2.cell? ⟨gr, 3, none⟩ = some (.string ⟨#[]⟩) ∧ w2.cell? ⟨gr, 4, none⟩ = some (.int .i64 0) ∧ w2.cell? ⟨gr, 5, none⟩ = some (.int .i64 0) ∧ w2.cell? ⟨gr, 6, none⟩ = some (.string ⟨#[]⟩) ∧ w2.cell? ⟨gr, 7, none⟩ = some (.string ⟨#[]⟩) ∧ w2.cell? ⟨gr, 8, none⟩ = some (.int .i64 0) ∧ w2.cell? ⟨gr, 9, none⟩ = some (.int .i64 0) ∧ w2.cell? ⟨gr, 10, none⟩ = some (.string ⟨#[]⟩) ∧ w2.cell? ⟨gr, 11, none⟩ = some (.int .i64 0) := ⟨by rw [blk_cell BR2.out]; rfl, by rw [blk_cell BR2.out]; rfl, by rw [blk_cell BR2.out]; rfl, by rw [blk_cell BR2.out]; rfl, by rw [blk_cell BR2.out]; rfl, by rw [blk_cell BR2.out]; rfl, by rw [blk_cell BR2.out]; rfl, by rw [blk_cell BR2.out]; rfl, by rw [blk_cell BR2.out]; rfl, by rw [blk_cell BR2.out]; rfl, by rw [blk_cell BR2.out]; rfl, by rw [blk_cell BR2.out]; rfl⟩
  have f0 := blk_frozen BR2.out 0
  have f1 := blk_frozen BR2.out 1
  have f2 := blk_frozen BR2.out 2
  have f3 := blk_frozen BR2.out 3
  have f4 := blk_frozen BR2.out 4
  have f5 := blk_frozen BR2.out 5
  have f6 := blk_frozen BR2.out 6
  have f7 := blk_frozen BR2.out 7
  have f8 := blk_frozen BR2.out 8
  have f9 := blk_frozen BR2.out 9
  have f10 := blk_frozen BR2.out 10
  have f11 := blk_frozen BR2.out 11
  go_wp2_with fail
  exact bodyPost_ret (results_c rfl _ _ gr 30 #[.int .i64 1, .int .i64 2, .int .i64 ta, .string ⟨#[]⟩, .int .i64 (ts.size : Int), .int .i64 0, .string ⟨#[]⟩, .string ⟨#[]⟩, .int .i64 0, .int .i64 0, .string ⟨#[]⟩, .int .i64 0] (0, 0) _ rfl (blk_put12 BR2.out) Try.underlying30 rfl (by kernel_rfl)) rfl ⟨rfl, turn_put12 T2.out (.inr HG.out.1) _ _ _ _ _ _ _ _ _ _ _ _⟩
set_option maxHeartbeats 8000000 in
theorem inv_t2 (tk ta : Int) (ts : ByteArray) (tn lk : Int) (ln lt : ByteArray) (la sk : Int) (sn : ByteArray) (sN : Int) (er : Int) (gone : ByteArray) (w : World) : Calls Try.prog 14 #[.agg #[.int .i64 1, .int .i64 2, .int .i64 ta, .string ts, .int .i64 tn, .int .i64 lk, .string ln, .string lt, .int .i64 la, .int .i64 sk, .string sn, .int .i64 sN], .agg #[.int .i64 er, .string gone]] w fun e w' => e = .returned (.agg #[.int .i64 1, .int .i64 1, .int .i64 ta, .string gone, .int .i64 0, .int .i64 0, .string ⟨#[]⟩, .string ⟨#[]⟩, .int .i64 0, .int .i64 0, .string ⟨#[]⟩, .int .i64 0]) ∧ Turn Nope w w' := by
  go_enter Try.func14, Try.ntmps14
  go_wp2_with fail
  have T0 : Hid (Turn Nope w (((w.alloc (.cells #[.int .i64 1, .int .i64 2, .int .i64 ta, .string ts, .int .i64 tn, .int .i64 lk, .string ln, .string lt, .int .i64 la, .int .i64 sk, .string sn, .int .i64 sN] 30)).alloc (.cells #[.int .i64 er, .string gone] 47)).alloc (.cells #[.int .i64 0, .int .i64 0, .int .i64 0, .string ⟨#[]⟩, .int .i64 0, .int .i64 0, .string ⟨#[]⟩, .string ⟨#[]⟩, .int .i64 0, .int .i64 0, .string ⟨#[]⟩, .int .i64 0] 30))) := (((Turn.refl _ _).alloc _).alloc _).alloc _
  have BR := Lib.hid (blk3 w (.cells #[.int .i64 1, .int .i64 2, .int .i64 ta, .string ts, .int .i64 tn, .int .i64 lk, .string ln, .string lt, .int .i64 la, .int .i64 sk, .string sn, .int .i64 sN] 30) (.cells #[.int .i64 er, .string gone] 47) (.cells #[.int .i64 0, .int .i64 0, .int .i64 0, .string ⟨#[]⟩, .int .i64 0, .int .i64 0, .string ⟨#[]⟩, .string ⟨#[]⟩, .int .i64 0, .int .i64 0, .string ⟨#[]⟩, .int .i64 0] 30))
  have BO : Hid ((((w.alloc (.cells #[.int .i64 1, .int .i64 2, .int .i64 ta, .string ts, .int .i64 tn, .int .i64 lk, .string ln, .string lt, .int .i64 la, .int .i64 sk, .string sn, .int .i64 sN] 30)).alloc (.cells #[.int .i64 er, .string gone] 47)).alloc (.cells #[.int .i64 0, .int .i64 0, .int .i64 0, .string ⟨#[]⟩, .int .i64 0, .int .i64 0, .string ⟨#[]⟩, .string ⟨#[]⟩, .int .i64 0, .int .i64 0, .string ⟨#[]⟩, .int .i64 0] 30)).heap[w.heap.size]? = some (.cells #[.int .i64 1, .int .i64 2, .int .i64 ta, .string ts, .int .i64 tn, .int .i64 lk, .string ln, .string lt, .int .i64 la, .int .i64 sk, .string sn, .int .i64 sN] 30 (0, 0))) := blk_alloc (blk_alloc (blk_new _ _) _) _
  generalize ((w.alloc (.cells #[.int .i64 1, .int .i64 2, .int .i64 ta, .string ts, .int .i64 tn, .int .i64 lk, .string ln, .string lt, .int .i64 la, .int .i64 sk, .string sn, .int .i64 sN] 30)).alloc (.cells #[.int .i64 er, .string gone] 47)).alloc (.cells #[.int .i64 0, .int .i64 0, .int .i64 0, .string ⟨#[]⟩, .int .i64 0, .int .i64 0, .string ⟨#[]⟩, .string ⟨#[]⟩, .int .i64 0, .int .i64 0, .string ⟨#[]⟩, .int .i64 0] 30) = w1 at T0 BR BO ⊢
  have HG : Hid (w.heap.size ≤ w.heap.size + 1 + 1 ∧ w.heap.size + 1 + 1 ≠ w.heap.size) := ⟨by omega, by omega⟩
  generalize hgr : w.heap.size + 1 + 1 = gr at BR HG ⊢
  refine (Tx.inv_del ta ts gone tn w1).mono ?_
  rintro e w2 ⟨rfl, ht⟩
  have BR2 := Lib.hid (ht.blk BR.out fun h => h)
  have T2 := Lib.hid (T0.out.trans ht)
  clear ht BR T0 BO
  obtain ⟨c0, c1, c2, c3, c4, c5, c6, c7, c8, c9, c10, c11⟩ : w2.cell? ⟨gr, 0, none⟩ = some (.int .i64 0) ∧ w2.cell? ⟨gr, 1, none⟩ = some (.int .i64 0) ∧ w2.cell? ⟨gr, 2, none⟩ = some (.int .i64 0) ∧ w2.cell? ⟨gr, 3, none⟩ = some (.string ⟨#[]⟩) ∧ w2.cell? ⟨gr, 4, none⟩ = some (.int .i64 0) ∧ w2.cell? ⟨gr, 5, none⟩ = some (.int .i64 0) ∧ w2.cell? ⟨gr, 6, none⟩ = some (.string ⟨#[]⟩) ∧ w2.cell? ⟨gr, 7, none⟩ = some (.string ⟨#[]⟩) ∧ w2.cell? ⟨gr, 8, none⟩ = some (.int .i64 0) ∧ w2.cell? ⟨gr, 9, none⟩ = some (.int .i64 0) ∧ w2.cell? ⟨gr, 10, none⟩ = some (.string ⟨#[]⟩) ∧ w2.cell? ⟨gr, 11, none⟩ = some (.int .i64 0) := ⟨by rw [blk_cell BR2.out]; rfl, by rw [blk_cell BR2.out]; rfl, by rw [blk_cell BR2.out]; rfl, by rw [blk_cell BR2.out]; rfl, by rw [blk_cell BR2.out]; rfl, by rw [blk_cell BR2.out]; rfl, by rw [blk_cell BR2.out]; rfl, by rw [blk_cell BR2.out]; rfl, by rw [blk_cell BR2.out]; rfl, by rw [blk_cell BR2.out]; rfl, by rw [blk_cell BR2.out]; rfl, by rw [blk_cell BR2.out]; rfl⟩
  have f0 := blk_frozen BR2.out 0
  have f1 := blk_frozen BR2.out 1
  have f2 := blk_frozen BR2.out 2
  have f3 := blk_frozen BR2.out 3
  have f4 := blk_frozen BR2.out 4
  have f5 := blk_frozen BR2.out 5
  have f6 := blk_frozen BR2.out 6
  have f7 := blk_frozen BR2.out 7
  have f8 := blk_frozen BR2.out 8
  have f9 := blk_frozen BR2.out 9
  have f10 := blk_frozen BR2.out 10
  have f11 := blk_frozen BR2.out 11
  go_wp2_with fail
  exact bodyPost_ret (results_c rfl _ _ gr 30 #[.int .i64 1, .int .i64 1, .int .i64 ta, .string gone, .int .i64 0, .int .i64 0, .string ⟨#[]⟩, .string ⟨#[]⟩, .int .i64 0, .int .i64 0, .string ⟨#[]⟩, .int .i64 0] (0, 0) _ rfl (blk_put12 BR2.out) Try.underlying30 rfl (by kernel_rfl)) rfl ⟨rfl, turn_put12 T2.out (.inr HG.out.1) _ _ _ _ _ _ _ _ _ _ _ _⟩
set_option maxHeartbeats 8000000 in
theorem inv_l1 (tk ta : Int) (ts : ByteArray) (tn lk : Int) (ln lt : ByteArray) (la sk : Int) (sn : ByteArray) (sN : Int) (er : Int) (gone : ByteArray) (w : World) : Calls Try.prog 14 #[.agg #[.int .i64 2, .int .i64 tk, .int .i64 ta, .string ts, .int .i64 tn, .int .i64 1, .string ln, .string lt, .int .i64 la, .int .i64 sk, .string sn, .int .i64 sN], .agg #[.int .i64 er, .string gone]] w fun e w' => e = .returned (.agg #[.int .i64 2, .int .i64 0, .int .i64 0, .string ⟨#[]⟩, .int .i64 0, .int .i64 2, .string ln, .string ⟨#[]⟩, .int .i64 0, .int .i64 0, .string ⟨#[]⟩, .int .i64 0]) ∧ Turn Nope w w' := by
  go_enter Try.func14, Try.ntmps14
  go_wp2_with fail
  have T0 : Hid (Turn Nope w (((w.alloc (.cells #[.int .i64 2, .int .i64 tk, .int .i64 ta, .string ts, .int .i64 tn, .int .i64 1, .string ln, .string lt, .int .i64 la, .int .i64 sk, .string sn, .int .i64 sN] 30)).alloc (.cells #[.int .i64 er, .string gone] 47)).alloc (.cells #[.int .i64 0, .int .i64 0, .int .i64 0, .string ⟨#[]⟩, .int .i64 0, .int .i64 0, .string ⟨#[]⟩, .string ⟨#[]⟩, .int .i64 0, .int .i64 0, .string ⟨#[]⟩, .int .i64 0] 30))) := (((Turn.refl _ _).alloc _).alloc _).alloc _
  have BR := Lib.hid (blk3 w (.cells #[.int .i64 2, .int .i64 tk, .int .i64 ta, .string ts, .int .i64 tn, .int .i64 1, .string ln, .string lt, .int .i64 la, .int .i64 sk, .string sn, .int .i64 sN] 30) (.cells #[.int .i64 er, .string gone] 47) (.cells #[.int .i64 0, .int .i64 0, .int .i64 0, .string ⟨#[]⟩, .int .i64 0, .int .i64 0, .string ⟨#[]⟩, .string ⟨#[]⟩, .int .i64 0, .int .i64 0, .string ⟨#[]⟩, .int .i64 0] 30))
  have BO : Hid ((((w.alloc (.cells #[.int .i64 2, .int .i64 tk, .int .i64 ta, .string ts, .int .i64 tn, .int .i64 1, .string ln, .string lt, .int .i64 la, .int .i64 sk, .string sn, .int .i64 sN] 30)).alloc (.cells #[.int .i64 er, .string gone] 47)).alloc (.cells #[.int .i64 0, .int .i64 0, .int .i64 0, .string ⟨#[]⟩, .int .i64 0, .int .i64 0, .string ⟨#[]⟩, .string ⟨#[]⟩, .int .i64 0, .int .i64 0, .string ⟨#[]⟩, .int .i64 0] 30)).heap[w.heap.size]? = some (.cells #[.int .i64 2, .int .i64 tk, .int .i64 ta, .string ts, .int .i64 tn, .int .i64 1, .string ln, .string lt, .int .i64 la, .int .i64 sk, .string sn, .int .i64 sN] 30 (0, 0))) := blk_alloc (blk_alloc (blk_new _ _) _) _
  generalize ((w.alloc (.cells #[.int .i64 2, .int .i64 tk, .int .i64 ta, .string ts, .int .i64 tn, .int .i64 1, .string ln, .string lt, .int .i64 la, .int .i64 sk, .string sn, .int .i64 sN] 30)).alloc (.cells #[.int .i64 er, .string gone] 47)).alloc (.cells #[.int .i64 0, .int .i64 0, .int .i64 0, .string ⟨#[]⟩, .int .i64 0, .int .i64 0, .string ⟨#[]⟩, .string ⟨#[]⟩, .int .i64 0, .int .i64 0, .string ⟨#[]⟩, .int .i64 0] 30) = w1 at T0 BR BO ⊢
  have HG : Hid (w.heap.size ≤ w.heap.size + 1 + 1 ∧ w.heap.size + 1 + 1 ≠ w.heap.size) := ⟨by omega, by omega⟩
  generalize hgr : w.heap.size + 1 + 1 = gr at BR HG ⊢
  refine (ledinv_any1 ln lt la w1).mono ?_
  rintro e w2 ⟨rfl, ht⟩
  have BR2 := Lib.hid (ht.blk BR.out fun h => h)
  have T2 := Lib.hid (T0.out.trans ht)
  clear ht BR T0 BO
  obtain ⟨c0, c1, c2, c3, c4, c5, c6, c7, c8, c9, c10, c11⟩ : w2.cell? ⟨gr, 0, none⟩ = some (.int .i64 0) ∧ w2.cell? ⟨gr, 1, none⟩ = some (.int .i64 0) ∧ w2.cell? ⟨gr, 2, none⟩ = some (.int .i64 0) ∧ w2.cell? ⟨gr, 3, none⟩ = some (.string ⟨#[]⟩) ∧ w2.cell? ⟨gr, 4, none⟩ = some (.int .i64 0) ∧ w2.cell? ⟨gr, 5, none⟩ = some (.int .i64 0) ∧ w2.cell? ⟨gr, 6, none⟩ = some (.string ⟨#[]⟩) ∧ w2.cell? ⟨gr, 7, none⟩ = some (.string ⟨#[]⟩) ∧ w2.cell? ⟨gr, 8, none⟩ = some (.int .i64 0) ∧ w2.cell? ⟨gr, 9, none⟩ = some (.int .i64 0) ∧ w2.cell? ⟨gr, 10, none⟩ = some (.string ⟨#[]⟩) ∧ w2.cell? ⟨gr, 11, none⟩ = some (.int .i64 0) := ⟨by rw [blk_cell BR2.out]; rfl, by rw [blk_cell BR2.out]; rfl, by rw [blk_cell BR2.out]; rfl, by rw [blk_cell BR2.out]; rfl, by rw [blk_cell BR2.out]; rfl, by rw [blk_cell BR2.out]; rfl, by rw [blk_cell BR2.out]; rfl, by rw [blk_cell BR2.out]; rfl, by rw [blk_cell BR2.out]; rfl, by rw [blk_cell BR2.out]; rfl, by rw [blk_cell BR2.out]; rfl, by rw [blk_cell BR2.out]; rfl⟩
  have f0 := blk_frozen BR2.out 0
  have f1 := blk_frozen BR2.out 1
  have f2 := blk_frozen BR2.out 2
  have f3 := blk_frozen BR2.out 3
  have f4 := blk_frozen BR2.out 4
  have f5 := blk_frozen BR2.out 5
  have f6 := blk_frozen BR2.out 6
  have f7 := blk_frozen BR2.out 7
  have f8 := blk_frozen BR2.out 8
  have f9 := blk_frozen BR2.out 9
  have f10 := blk_frozen BR2.out 10
  have f11 := blk_frozen BR2.out 11
  go_wp2_with fail
  exact bodyPost_ret (results_c rfl _ _ gr 30 #[.int .i64 2, .int .i64 0, .int .i64 0, .string ⟨#[]⟩, .int .i64 0, .int .i64 2, .string ln, .string ⟨#[]⟩, .int .i64 0, .int .i64 0, .string ⟨#[]⟩, .int .i64 0] (0, 0) _ rfl (blk_put12 BR2.out) Try.underlying30 rfl (by kernel_rfl)) rfl ⟨rfl, turn_put12 T2.out (.inr HG.out.1) _ _ _ _ _ _ _ _ _ _ _ _⟩
set_option maxHeartbeats 8000000 in
theorem inv_l2 (tk ta : Int) (ts : ByteArray) (tn lk : Int) (ln lt : ByteArray) (la sk : Int) (sn : ByteArray) (sN : Int) (er : Int) (gone : ByteArray) (w : World) : Calls Try.prog 14 #[.agg #[.int .i64 2, .int .i64 tk, .int .i64 ta, .string ts, .int .i64 tn, .int .i64 2, .string ln, .string lt, .int .i64 la, .int .i64 sk, .string sn, .int .i64 sN], .agg #[.int .i64 er, .string gone]] w fun e w' => e = .returned (.agg #[.int .i64 2, .int .i64 0, .int .i64 0, .string ⟨#[]⟩, .int .i64 0, .int .i64 1, .string ln, .string ⟨#[]⟩, .int .i64 0, .int .i64 0, .string ⟨#[]⟩, .int .i64 0]) ∧ Turn Nope w w' := by
  go_enter Try.func14, Try.ntmps14
  go_wp2_with fail
  have T0 : Hid (Turn Nope w (((w.alloc (.cells #[.int .i64 2, .int .i64 tk, .int .i64 ta, .string ts, .int .i64 tn, .int .i64 2, .string ln, .string lt, .int .i64 la, .int .i64 sk, .string sn, .int .i64 sN] 30)).alloc (.cells #[.int .i64 er, .string gone] 47)).alloc (.cells #[.int .i64 0, .int .i64 0, .int .i64 0, .string ⟨#[]⟩, .int .i64 0, .int .i64 0, .string ⟨#[]⟩, .string ⟨#[]⟩, .int .i64 0, .int .i64 0, .string ⟨#[]⟩, .int .i64 0] 30))) := (((Turn.refl _ _).alloc _).alloc _).alloc _
  have BR := Lib.hid (blk3 w (.cells #[.int .i64 2, .int .i64 tk, .int .i64 ta, .string ts, .int .i64 tn, .int .i64 2, .string ln, .string lt, .int .i64 la, .int .i64 sk, .string sn, .int .i64 sN] 30) (.cells #[.int .i64 er, .string gone] 47) (.cells #[.int .i64 0, .int .i64 0, .int .i64 0, .string ⟨#[]⟩, .int .i64 0, .int .i64 0, .string ⟨#[]⟩, .string ⟨#[]⟩, .int .i64 0, .int .i64 0, .string ⟨#[]⟩, .int .i64 0] 30))
  have BO : Hid ((((w.alloc (.cells #[.int .i64 2, .int .i64 tk, .int .i64 ta, .string ts, .int .i64 tn, .int .i64 2, .string ln, .string lt, .int .i64 la, .int .i64 sk, .string sn, .int .i64 sN] 30)).alloc (.cells #[.int .i64 er, .string gone] 47)).alloc (.cells #[.int .i64 0, .int .i64 0, .int .i64 0, .string ⟨#[]⟩, .int .i64 0, .int .i64 0, .string ⟨#[]⟩, .string ⟨#[]⟩, .int .i64 0, .int .i64 0, .string ⟨#[]⟩, .int .i64 0] 30)).heap[w.heap.size]? = some (.cells #[.int .i64 2, .int .i64 tk, .int .i64 ta, .string ts, .int .i64 tn, .int .i64 2, .string ln, .string lt, .int .i64 la, .int .i64 sk, .string sn, .int .i64 sN] 30 (0, 0))) := blk_alloc (blk_alloc (blk_new _ _) _) _
  generalize ((w.alloc (.cells #[.int .i64 2, .int .i64 tk, .int .i64 ta, .string ts, .int .i64 tn, .int .i64 2, .string ln, .string lt, .int .i64 la, .int .i64 sk, .string sn, .int .i64 sN] 30)).alloc (.cells #[.int .i64 er, .string gone] 47)).alloc (.cells #[.int .i64 0, .int .i64 0, .int .i64 0, .string ⟨#[]⟩, .int .i64 0, .int .i64 0, .string ⟨#[]⟩, .string ⟨#[]⟩, .int .i64 0, .int .i64 0, .string ⟨#[]⟩, .int .i64 0] 30) = w1 at T0 BR BO ⊢
  have HG : Hid (w.heap.size ≤ w.heap.size + 1 + 1 ∧ w.heap.size + 1 + 1 ≠ w.heap.size) := ⟨by omega, by omega⟩
  generalize hgr : w.heap.size + 1 + 1 = gr at BR HG ⊢
  refine (ledinv_any2 ln lt la w1).mono ?_
  rintro e w2 ⟨rfl, ht⟩
  have BR2 := Lib.hid (ht.blk BR.out fun h => h)
  have T2 := Lib.hid (T0.out.trans ht)
  clear ht BR T0 BO
  obtain ⟨c0, c1, c2, c3, c4, c5, c6, c7, c8, c9, c10, c11⟩ : w2.cell? ⟨gr, 0, none⟩ = some (.int .i64 0) ∧ w2.cell? ⟨gr, 1, none⟩ = some (.int .i64 0) ∧ w2.cell? ⟨gr, 2, none⟩ = some (.int .i64 0) ∧ w2.cell? ⟨gr, 3, none⟩ = some (.string ⟨#[]⟩) ∧ w2.cell? ⟨gr, 4, none⟩ = some (.int .i64 0) ∧ w2.cell? ⟨gr, 5, none⟩ = some (.int .i64 0) ∧ w2.cell? ⟨gr, 6, none⟩ = some (.string ⟨#[]⟩) ∧ w2.cell? ⟨gr, 7, none⟩ = some (.string ⟨#[]⟩) ∧ w2.cell? ⟨gr, 8, none⟩ = some (.int .i64 0) ∧ w2.cell? ⟨gr, 9, none⟩ = some (.int .i64 0) ∧ w2.cell? ⟨gr, 10, none⟩ = some (.string ⟨#[]⟩) ∧ w2.cell? ⟨gr, 11, none⟩ = some (.int .i64 0) := ⟨by rw [blk_cell BR2.out]; rfl, by rw [blk_cell BR2.out]; rfl, by rw [blk_cell BR2.out]; rfl, by rw [blk_cell BR2.out]; rfl, by rw [blk_cell BR2.out]; rfl, by rw [blk_cell BR2.out]; rfl, by rw [blk_cell BR2.out]; rfl, by rw [blk_cell BR2.out]; rfl, by rw [blk_cell BR2.out]; rfl, by rw [blk_cell BR2.out]; rfl, by rw [blk_cell BR2.out]; rfl, by rw [blk_cell BR2.out]; rfl⟩
  have f0 := blk_frozen BR2.out 0
  have f1 := blk_frozen BR2.out 1
  have f2 := blk_frozen BR2.out 2
  have f3 := blk_frozen BR2.out 3
  have f4 := blk_frozen BR2.out 4
  have f5 := blk_frozen BR2.out 5
  have f6 := blk_frozen BR2.out 6
  have f7 := blk_frozen BR2.out 7
  have f8 := blk_frozen BR2.out 8
  have f9 := blk_frozen BR2.out 9
  have f10 := blk_frozen BR2.out 10
  have f11 := blk_frozen BR2.out 11
  go_wp2_with fail
  exact bodyPost_ret (results_c rfl _ _ gr 30 #[.int .i64 2, .int .i64 0, .int .i64 0, .string ⟨#[]⟩, .int .i64 0, .int .i64 1, .string ln, .string ⟨#[]⟩, .int .i64 0, .int .i64 0, .string ⟨#[]⟩, .int .i64 0] (0, 0) _ rfl (blk_put12 BR2.out) Try.underlying30 rfl (by kernel_rfl)) rfl ⟨rfl, turn_put12 T2.out (.inr HG.out.1) _ _ _ _ _ _ _ _ _ _ _ _⟩
set_option maxHeartbeats 8000000 in
theorem inv_l3 (tk ta : Int) (ts : ByteArray) (tn lk : Int) (ln lt : ByteArray) (la sk : Int) (sn : ByteArray) (sN : Int) (er : Int) (gone : ByteArray) (w : World) : Calls Try.prog 14 #[.agg #[.int .i64 2, .int .i64 tk, .int .i64 ta, .string ts, .int .i64 tn, .int .i64 3, .string ln, .string lt, .int .i64 la, .int .i64 sk, .string sn, .int .i64 sN], .agg #[.int .i64 er, .string gone]] w fun e w' => e = .returned (.agg #[.int .i64 2, .int .i64 0, .int .i64 0, .string ⟨#[]⟩, .int .i64 0, .int .i64 3, .string lt, .string ln, .int .i64 la, .int .i64 0, .string ⟨#[]⟩, .int .i64 0]) ∧ Turn Nope w w' := by
  go_enter Try.func14, Try.ntmps14
  go_wp2_with fail
  have T0 : Hid (Turn Nope w (((w.alloc (.cells #[.int .i64 2, .int .i64 tk, .int .i64 ta, .string ts, .int .i64 tn, .int .i64 3, .string ln, .string lt, .int .i64 la, .int .i64 sk, .string sn, .int .i64 sN] 30)).alloc (.cells #[.int .i64 er, .string gone] 47)).alloc (.cells #[.int .i64 0, .int .i64 0, .int .i64 0, .string ⟨#[]⟩, .int .i64 0, .int .i64 0, .string ⟨#[]⟩, .string ⟨#[]⟩, .int .i64 0, .int .i64 0, .string ⟨#[]⟩, .int .i64 0] 30))) := (((Turn.refl _ _).alloc _).alloc _).alloc _
  have BR := Lib.hid (blk3 w (.cells #[.int .i64 2, .int .i64 tk, .int .i64 ta, .string ts, .int .i64 tn, .int .i64 3, .string ln, .string lt, .int .i64 la, .int .i64 sk, .string sn, .int .i64 sN] 30) (.cells #[.int .i64 er, .string gone] 47) (.cells #[.int .i64 0, .int .i64 0, .int .i64 0, .string ⟨#[]⟩, .int .i64 0, .int .i64 0, .string ⟨#[]⟩, .string ⟨#[]⟩, .int .i64 0, .int .i64 0, .string ⟨#[]⟩, .int .i64 0] 30))
  have BO : Hid ((((w.alloc (.cells #[.int .i64 2, .int .i64 tk, .int .i64 ta, .string ts, .int .i64 tn, .int .i64 3, .string ln, .string lt, .int .i64 la, .int .i64 sk, .string sn, .int .i64 sN] 30)).alloc (.cells #[.int .i64 er, .string gone] 47)).alloc (.cells #[.int .i64 0, .int .i64 0, .int .i64 0, .string ⟨#[]⟩, .int .i64 0, .int .i64 0, .string ⟨#[]⟩, .string ⟨#[]⟩, .int .i64 0, .int .i64 0, .string ⟨#[]⟩, .int .i64 0] 30)).heap[w.heap.size]? = some (.cells #[.int .i64 2, .int .i64 tk, .int .i64 ta, .string ts, .int .i64 tn, .int .i64 3, .string ln, .string lt, .int .i64 la, .int .i64 sk, .string sn, .int .i64 sN] 30 (0, 0))) := blk_alloc (blk_alloc (blk_new _ _) _) _
  generalize ((w.alloc (.cells #[.int .i64 2, .int .i64 tk, .int .i64 ta, .string ts, .int .i64 tn, .int .i64 3, .string ln, .string lt, .int .i64 la, .int .i64 sk, .string sn, .int .i64 sN] 30)).alloc (.cells #[.int .i64 er, .string gone] 47)).alloc (.cells #[.int .i64 0, .int .i64 0, .int .i64 0, .string ⟨#[]⟩, .int .i64 0, .int .i64 0, .string ⟨#[]⟩, .string ⟨#[]⟩, .int .i64 0, .int .i64 0, .string ⟨#[]⟩, .int .i64 0] 30) = w1 at T0 BR BO ⊢
  have HG : Hid (w.heap.size ≤ w.heap.size + 1 + 1 ∧ w.heap.size + 1 + 1 ≠ w.heap.size) := ⟨by omega, by omega⟩
  generalize hgr : w.heap.size + 1 + 1 = gr at BR HG ⊢
  refine (ledinv_any3 ln lt la w1).mono ?_
  rintro e w2 ⟨rfl, ht⟩
  have BR2 := Lib.hid (ht.blk BR.out fun h => h)
  have T2 := Lib.hid (T0.out.trans ht)
  clear ht BR T0 BO
  obtain ⟨c0, c1, c2, c3, c4, c5, c6, c7, c8, c9, c10, c11⟩ : w2.cell? ⟨gr, 0, none⟩ = some (.int .i64 0) ∧ w2.cell? ⟨gr, 1, none⟩ = some (.int .i64 0) ∧ w2.cell? ⟨gr, 2, none⟩ = some (.int .i64 0) ∧ w2.cell? ⟨gr, 3, none⟩ = some (.string ⟨#[]⟩) ∧ w2.cell? ⟨gr, 4, none⟩ = some (.int .i64 0) ∧ w2.cell? ⟨gr, 5, none⟩ = some (.int .i64 0) ∧ w2.cell? ⟨gr, 6, none⟩ = some (.string ⟨#[]⟩) ∧ w2.cell? ⟨gr, 7, none⟩ = some (.string ⟨#[]⟩) ∧ w2.cell? ⟨gr, 8, none⟩ = some (.int .i64 0) ∧ w2.cell? ⟨gr, 9, none⟩ = some (.int .i64 0) ∧ w2.cell? ⟨gr, 10, none⟩ = some (.string ⟨#[]⟩) ∧ w2.cell? ⟨gr, 11, none⟩ = some (.int .i64 0) := ⟨by rw [blk_cell BR2.out]; rfl, by rw [blk_cell BR2.out]; rfl, by rw [blk_cell BR2.out]; rfl, by rw [blk_cell BR2.out]; rfl, by rw [blk_cell BR2.out]; rfl, by rw [blk_cell BR2.out]; rfl, by rw [blk_cell BR2.out]; rfl, by rw [blk_cell BR2.out]; rfl, by rw [blk_cell BR2.out]; rfl, by rw [blk_cell BR2.out]; rfl, by rw [blk_cell BR2.out]; rfl, by rw [blk_cell BR2.out]; rfl⟩
  have f0 := blk_frozen BR2.out 0
  have f1 := blk_frozen BR2.out 1
  have f2 := blk_frozen BR2.out 2
  have f3 := blk_frozen BR2.out 3
  have f4 := blk_frozen BR2.out 4
  have f5 := blk_frozen BR2.out 5
  have f6 := blk_frozen BR2.out 6
  have f7 := blk_frozen BR2.out 7
  have f8 := blk_frozen BR2.out 8
  have f9 := blk_frozen BR2.out 9
  have f10 := blk_frozen BR2.out 10
  have f11 := blk_frozen BR2.out 11
  go_wp2_with fail
  exact bodyPost_ret (results_c rfl _ _ gr 30 #[.int .i64 2, .int .i64 0, .int .i64 0, .string ⟨#[]⟩, .int .i64 0, .int .i64 3, .string lt, .string ln, .int .i64 la, .int .i64 0, .string ⟨#[]⟩, .int .i64 0] (0, 0) _ rfl (blk_put12 BR2.out) Try.underlying30 rfl (by kernel_rfl)) rfl ⟨rfl, turn_put12 T2.out (.inr HG.out.1) _ _ _ _ _ _ _ _ _ _ _ _⟩
set_option maxHeartbeats 8000000 in
theorem inv_s1 (tk ta : Int) (ts : ByteArray) (tn lk : Int) (ln lt : ByteArray) (la sk : Int) (sn : ByteArray) (sN : Int) (er : Int) (gone : ByteArray) (w : World) : Calls Try.prog 14 #[.agg #[.int .i64 3, .int .i64 tk, .int .i64 ta, .string ts, .int .i64 tn, .int .i64 lk, .string ln, .string lt, .int .i64 la, .int .i64 1, .string sn, .int .i64 sN], .agg #[.int .i64 er, .string gone]] w fun e w' => e = .returned (.agg #[.int .i64 3, .int .i64 0, .int .i64 0, .string ⟨#[]⟩, .int .i64 0, .int .i64 0, .string ⟨#[]⟩, .string ⟨#[]⟩, .int .i64 0, .int .i64 2, .string sn, .int .i64 sN]) ∧ Turn Nope w w' := by
  go_enter Try.func14, Try.ntmps14
  go_wp2_with fail
  have T0 : Hid (Turn Nope w (((w.alloc (.cells #[.int .i64 3, .int .i64 tk, .int .i64 ta, .string ts, .int .i64 tn, .int .i64 lk, .string ln, .string lt, .int .i64 la, .int .i64 1, .string sn, .int .i64 sN] 30)).alloc (.cells #[.int .i64 er, .string gone] 47)).alloc (.cells #[.int .i64 0, .int .i64 0, .int .i64 0, .string ⟨#[]⟩, .int .i64 0, .int .i64 0, .string ⟨#[]⟩, .string ⟨#[]⟩, .int .i64 0, .int .i64 0, .string ⟨#[]⟩, .int .i64 0] 30))) := (((Turn.refl _ _).alloc _).alloc _).alloc _
  have BR := Lib.hid (blk3 w (.cells #[.int .i64 3, .int .i64 tk, .int .i64 ta, .string ts, .int .i64 tn, .int .i64 lk, .string ln, .string lt, .int .i64 la, .int .i64 1, .string sn, .int .i64 sN] 30) (.cells #[.int .i64 er, .string gone] 47) (.cells #[.int .i64 0, .int .i64 0, .int .i64 0, .string ⟨#[]⟩, .int .i64 0, .int .i64 0, .string ⟨#[]⟩, .string ⟨#[]⟩, .int .i64 0, .int .i64 0, .string ⟨#[]⟩, .int .i64 0] 30))
  have BO : Hid ((((w.alloc (.cells #[.int .i64 3, .int .i64 tk, .int .i64 ta, .string ts, .int .i64 tn, .int .i64 lk, .string ln, .string lt, .int .i64 la, .int .i64 1, .string sn, .int .i64 sN] 30)).alloc (.cells #[.int .i64 er, .string gone] 47)).alloc (.cells #[.int .i64 0, .int .i64 0, .int .i64 0, .string ⟨#[]⟩, .int .i64 0, .int .i64 0, .string ⟨#[]⟩, .string ⟨#[]⟩, .int .i64 0, .int .i64 0, .string ⟨#[]⟩, .int .i64 0] 30)).heap[w.heap.size]? = some (.cells #[.int .i64 3, .int .i64 tk, .int .i64 ta, .string ts, .int .i64 tn, .int .i64 lk, .string ln, .string lt, .int .i64 la, .int .i64 1, .string sn, .int .i64 sN] 30 (0, 0))) := blk_alloc (blk_alloc (blk_new _ _) _) _
  generalize ((w.alloc (.cells #[.int .i64 3, .int .i64 tk, .int .i64 ta, .string ts, .int .i64 tn, .int .i64 lk, .string ln, .string lt, .int .i64 la, .int .i64 1, .string sn, .int .i64 sN] 30)).alloc (.cells #[.int .i64 er, .string gone] 47)).alloc (.cells #[.int .i64 0, .int .i64 0, .int .i64 0, .string ⟨#[]⟩, .int .i64 0, .int .i64 0, .string ⟨#[]⟩, .string ⟨#[]⟩, .int .i64 0, .int .i64 0, .string ⟨#[]⟩, .int .i64 0] 30) = w1 at T0 BR BO ⊢
  have HG : Hid (w.heap.size ≤ w.heap.size + 1 + 1 ∧ w.heap.size + 1 + 1 ≠ w.heap.size) := ⟨by omega, by omega⟩
  generalize hgr : w.heap.size + 1 + 1 = gr at BR HG ⊢
  refine wp_region_held_drew (S := fun W => W.heap[w.heap.size]? = some (.cells #[.int .i64 3, .int .i64 tk, .int .i64 ta, .string ts, .int .i64 tn, .int .i64 lk, .string ln, .string lt, .int .i64 la, .int .i64 1, .string sn, .int .i64 sN] 30 (0, 0))) (by kernel_rfl) (show w1.drew.heap[w.heap.size]? = _ from BO.out) (fun hHeld => ?_)
  refine' wpAnyH_take (i := 0) (v := _) (by simp only [List.getElem?_toArray, List.getElem?_cons_succ, List.getElem?_cons_zero]; rfl) (by kernel_rfl) (by kernel_rfl) (by kernel_rfl) (by intro _ _ _ h; exact h) (Or.inl ⟨by rfl, ?hyv1⟩) hHeld ?restv1
  case hyv1 => (intro w hSw; (try dsimp only at hSw); go_simp; try (with_reducible rfl))
  simp only [Act.put, List.setIfInBounds_toArray, List.set_cons_zero, List.set_cons_succ]
  refine' wpAnyH_take (i := 1) (v := _) (by simp only [List.getElem?_toArray, List.getElem?_cons_succ, List.getElem?_cons_zero]; rfl) (by kernel_rfl) (by kernel_rfl) (by kernel_rfl) (by intro _ _ _ h; exact h) (Or.inl ⟨by rfl, ?hyv2⟩) hHeld ?restv2
  case hyv2 => (intro w hSw; have c0 := blk_cell hSw 0; have c1 := blk_cell hSw 1; have c2 := blk_cell hSw 2; have c3 := blk_cell hSw 3; have c4 := blk_cell hSw 4; have c5 := blk_cell hSw 5; have c6 := blk_cell hSw 6; have c7 := blk_cell hSw 7; have c8 := blk_cell hSw 8; have c9 := blk_cell hSw 9; have c10 := blk_cell hSw 10; have c11 := blk_cell hSw 11; simp only [List.getElem?_toArray, List.getElem?_cons_zero, List.getElem?_cons_succ] at c0 c1 c2 c3 c4 c5 c6 c7 c8 c9 c10 c11; go_simp; try (with_reducible rfl))
  simp only [Act.put, List.setIfInBounds_toArray, List.set_cons_zero, List.set_cons_succ]
  refine' wpAnyH_take (i := 2) (v := _) (by simp only [List.getElem?_toArray, List.getElem?_cons_succ, List.getElem?_cons_zero]; rfl) (by kernel_rfl) (by kernel_rfl) (by kernel_rfl) (by intro _ _ _ h; exact h) (Or.inl ⟨by rfl, ?hyv3⟩) hHeld ?restv3
  case hyv3 => (intro w hSw; (try dsimp only at hSw); go_simp; try (with_reducible rfl))
  simp only [Act.put, List.setIfInBounds_toArray, List.set_cons_zero, List.set_cons_succ]
  refine' wpAnyH_take (i := 3) (v := _) (by simp only [List.getElem?_toArray, List.getElem?_cons_succ, List.getElem?_cons_zero]; rfl) (by kernel_rfl) (by kernel_rfl) (by kernel_rfl) (by intro _ _ _ h; exact h) (Or.inl ⟨by rfl, ?hyv4⟩) hHeld ?restv4
  case hyv4 => (intro w hSw; have c0 := blk_cell hSw 0; have c1 := blk_cell hSw 1; have c2 := blk_cell hSw 2; have c3 := blk_cell hSw 3; have c4 := blk_cell hSw 4; have c5 := blk_cell hSw 5; have c6 := blk_cell hSw 6; have c7 := blk_cell hSw 7; have c8 := blk_cell hSw 8; have c9 := blk_cell hSw 9; have c10 := blk_cell hSw 10; have c11 := blk_cell hSw 11; simp only [List.getElem?_toArray, List.getElem?_cons_zero, List.getElem?_cons_succ] at c0 c1 c2 c3 c4 c5 c6 c7 c8 c9 c10 c11; go_simp; try (with_reducible rfl))
  simp only [Act.put, List.setIfInBounds_toArray, List.set_cons_zero, List.set_cons_succ]
  refine wpAnyH_ready (rs := [4]) (by kernel_rfl) (by simp) (AllReadyH.cons (by simp only [List.getElem?_toArray, List.getElem?_cons_succ, List.getElem?_cons_zero]; rfl) (fun K hK => ?_) AllReadyH.nil)
  rw [if_pos (by first | rfl | (simp [Region.wanted]; done) | kernel_rfl)]
  go_simp
  refine (stkinv_any1 sn sN _).mono ?_
  rintro e w2 ⟨rfl, ht⟩
  have BR2 := Lib.hid ((((Turn.refl Nope w1).drew).trans ht).blk BR.out fun h => h)
  have T2 := Lib.hid (T0.out.trans (((Turn.refl Nope w1).drew).trans ht))
  have BO2 := Lib.hid ((((Turn.refl Nope w1).drew).trans ht).blk BO.out fun h => h)
  clear ht BR T0 BO
  refine hK.out _ _ ?_ (fun hHeld => ?_)
  · exact BO2.out
  clear hK K
  try simp only [Act.put, List.setIfInBounds_toArray, List.set_cons_zero, List.set_cons_succ]
  refine' wpAnyH_take (i := 5) (v := _) (by simp only [List.getElem?_toArray, List.getElem?_cons_succ, List.getElem?_cons_zero]; rfl) (by kernel_rfl) (by kernel_rfl) (by kernel_rfl) (by intro _ _ _ h; exact h) (Or.inl ⟨by rfl, ?hyv5⟩) hHeld ?restv5
  case hyv5 => (intro w hSw; (try dsimp only at hSw); go_simp; try (with_reducible rfl))
  simp only [Act.put, List.setIfInBounds_toArray, List.set_cons_zero, List.set_cons_succ]
  refine wpAnyH_ready (rs := [6]) (by kernel_rfl) (by simp) (AllReadyH.cons (by simp only [List.getElem?_toArray, List.getElem?_cons_succ, List.getElem?_cons_zero]; rfl) (fun K hK => ?_) AllReadyH.nil)
  rw [if_pos (by first | rfl | (simp [Region.wanted]; done) | kernel_rfl)]
  obtain ⟨c0, c1, c2, c3, c4, c5, c6, c7, c8, c9, c10, c11⟩ : w2.cell? ⟨gr, 0, none⟩ = some (.int .i64 0) ∧ w2.cell? ⟨gr, 1, none⟩ = some (.int .i64 0) ∧ w2.cell? ⟨gr, 2, none⟩ = some (.int .i64 0) ∧ w2.cell? ⟨gr, 3, none⟩ = some (.string ⟨#[]⟩) ∧ w2.cell? ⟨gr, 4, none⟩ = some (.int .i64 0) ∧ w2.cell? ⟨gr, 5, none⟩ = some (.int .i64 0) ∧ w2.cell? ⟨gr, 6, none⟩ = some (.string ⟨#[]⟩) ∧ w2.cell? ⟨gr, 7, none⟩ = some (.string ⟨#[]⟩) ∧ w2.cell? ⟨gr, 8, none⟩ = some (.int .i64 0) ∧ w2.cell? ⟨gr, 9, none⟩ = some (.int .i64 0) ∧ w2.cell? ⟨gr, 10, none⟩ = some (.string ⟨#[]⟩) ∧ w2.cell? ⟨gr, 11, none⟩ = some (.int .i64 0) := ⟨by rw [blk_cell BR2.out]; rfl, by rw [blk_cell BR2.out]; rfl, by rw [blk_cell BR2.out]; rfl, by rw [blk_cell BR2.out]; rfl, by rw [blk_cell BR2.out]; rfl, by rw [blk_cell BR2.out]; rfl, by rw [blk_cell BR2.out]; rfl, by rw [blk_cell BR2.out]; rfl, by rw [blk_cell BR2.out]; rfl, by rw [blk_cell BR2.out]; rfl, by rw [blk_cell BR2.out]; rfl, by rw [blk_cell BR2.out]; rfl⟩
  have f0 := blk_frozen BR2.out 0
  have f1 := blk_frozen BR2.out 1
  have f2 := blk_frozen BR2.out 2
  have f3 := blk_frozen BR2.out 3
  have f4 := blk_frozen BR2.out 4
  have f5 := blk_frozen BR2.out 5
  have f6 := blk_frozen BR2.out 6
  have f7 := blk_frozen BR2.out 7
  have f8 := blk_frozen BR2.out 8
  have f9 := blk_frozen BR2.out 9
  have f10 := blk_frozen BR2.out 10
  have f11 := blk_frozen BR2.out 11
  go_simp
  refine hK.out _ _ ?_ (fun hHeld => ?_)
  · exact far12b BO2.out HG.out.2.symm (.int .i64 3) (.int .i64 0) (.int .i64 0) (.string ⟨#[]⟩) (.int .i64 0) (.int .i64 0) (.string ⟨#[]⟩) (.string ⟨#[]⟩) (.int .i64 0) (.int .i64 2) (.string sn) (.int .i64 sN)
  clear hK K
  try simp only [Act.put, List.setIfInBounds_toArray, List.set_cons_zero, List.set_cons_succ]
  refine wpAnyH_done (by kernel_rfl) ?_ _
  go_wp2_with fail
  exact bodyPost_ret (results_c rfl _ _ gr 30 #[.int .i64 3, .int .i64 0, .int .i64 0, .string ⟨#[]⟩, .int .i64 0, .int .i64 0, .string ⟨#[]⟩, .string ⟨#[]⟩, .int .i64 0, .int .i64 2, .string sn, .int .i64 sN] (0, 0) _ rfl (blk_put12 BR2.out) Try.underlying30 rfl (by kernel_rfl)) rfl ⟨rfl, turn_put12 T2.out (.inr HG.out.1) _ _ _ _ _ _ _ _ _ _ _ _⟩
set_option maxHeartbeats 8000000 in
theorem inv_s2 (tk ta : Int) (ts : ByteArray) (tn lk : Int) (ln lt : ByteArray) (la sk : Int) (sn : ByteArray) (sN : Int) (er : Int) (gone : ByteArray) (w : World) : Calls Try.prog 14 #[.agg #[.int .i64 3, .int .i64 tk, .int .i64 ta, .string ts, .int .i64 tn, .int .i64 lk, .string ln, .string lt, .int .i64 la, .int .i64 2, .string sn, .int .i64 sN], .agg #[.int .i64 er, .string gone]] w fun e w' => e = .returned (.agg #[.int .i64 3, .int .i64 0, .int .i64 0, .string ⟨#[]⟩, .int .i64 0, .int .i64 0, .string ⟨#[]⟩, .string ⟨#[]⟩, .int .i64 0, .int .i64 1, .string sn, .int .i64 sN]) ∧ Turn Nope w w' := by
  go_enter Try.func14, Try.ntmps14
  go_wp2_with fail
  have T0 : Hid (Turn Nope w (((w.alloc (.cells #[.int .i64 3, .int .i64 tk, .int .i64 ta, .string ts, .int .i64 tn, .int .i64 lk, .string ln, .string lt, .int .i64 la, .int .i64 2, .string sn, .int .i64 sN] 30)).alloc (.cells #[.int .i64 er, .string gone] 47)).alloc (.cells #[.int .i64 0, .int .i64 0, .int .i64 0, .string ⟨#[]⟩, .int .i64 0, .int .i64 0, .string ⟨#[]⟩, .string ⟨#[]⟩, .int .i64 0, .int .i64 0, .string ⟨#[]⟩, .int .i64 0] 30))) := (((Turn.refl _ _).alloc _).alloc _).alloc _
  have BR := Lib.hid (blk3 w (.cells #[.int .i64 3, .int .i64 tk, .int .i64 ta, .string ts, .int .i64 tn, .int .i64 lk, .string ln, .string lt, .int .i64 la, .int .i64 2, .string sn, .int .i64 sN] 30) (.cells #[.int .i64 er, .string gone] 47) (.cells #[.int .i64 0, .int .i64 0, .int .i64 0, .string ⟨#[]⟩, .int .i64 0, .int .i64 0, .string ⟨#[]⟩, .string ⟨#[]⟩, .int .i64 0, .int .i64 0, .string ⟨#[]⟩, .int .i64 0] 30))
  have BO : Hid ((((w.alloc (.cells #[.int .i64 3, .int .i64 tk, .int .i64 ta, .string ts, .int .i64 tn, .int .i64 lk, .string ln, .string lt, .int .i64 la, .int .i64 2, .string sn, .int .i64 sN] 30)).alloc (.cells #[.int .i64 er, .string gone] 47)).alloc (.cells #[.int .i64 0, .int .i64 0, .int .i64 0, .string ⟨#[]⟩, .int .i64 0, .int .i64 0, .string ⟨#[]⟩, .string ⟨#[]⟩, .int .i64 0, .int .i64 0, .string ⟨#[]⟩, .int .i64 0] 30)).heap[w.heap.size]? = some (.cells #[.int .i64 3, .int .i64 tk, .int .i64 ta, .string ts, .int .i64 tn, .int .i64 lk, .string ln, .string lt, .int .i64 la, .int .i64 2, .string sn, .int .i64 sN] 30 (0, 0))) := blk_alloc (blk_alloc (blk_new _ _) _) _
  generalize ((w.alloc (.cells #[.int .i64 3, .int .i64 tk, .int .i64 ta, .string ts, .int .i64 tn, .int .i64 lk, .string ln, .string lt, .int .i64 la, .int .i64 2, .string sn, .int .i64 sN] 30)).alloc (.cells #[.int .i64 er, .string gone] 47)).alloc (.cells #[.int .i64 0, .int .i64 0, .int .i64 0, .string ⟨#[]⟩, .int .i64 0, .int .i64 0, .string ⟨#[]⟩, .string ⟨#[]⟩, .int .i64 0, .int .i64 0, .string ⟨#[]⟩, .int .i64 0] 30) = w1 at T0 BR BO ⊢
  have HG : Hid (w.heap.size ≤ w.heap.size + 1 + 1 ∧ w.heap.size + 1 + 1 ≠ w.heap.size) := ⟨by omega, by omega⟩
  generalize hgr : w.heap.size + 1 + 1 = gr at BR HG ⊢
  refine wp_region_held_drew (S := fun W => W.heap[w.heap.size]? = some (.cells #[.int .i64 3, .int .i64 tk, .int .i64 ta, .string ts, .int .i64 tn, .int .i64 lk, .string ln, .string lt, .int .i64 la, .int .i64 2, .string sn, .int .i64 sN] 30 (0, 0))) (by kernel_rfl) (show w1.drew.heap[w.heap.size]? = _ from BO.out) (fun hHeld => ?_)
  refine' wpAnyH_take (i := 0) (v := _) (by simp only [List.getElem?_toArray, List.getElem?_cons_succ, List.getElem?_cons_zero]; rfl) (by kernel_rfl) (by kernel_rfl) (by kernel_rfl) (by intro _ _ _ h; exact h) (Or.inl ⟨by rfl, ?hyv1⟩) hHeld ?restv1
  case hyv1 => (intro w hSw; (try dsimp only at hSw); go_simp; try (with_reducible rfl))
  simp only [Act.put, List.setIfInBounds_toArray, List.set_cons_zero, List.set_cons_succ]
  refine' wpAnyH_take (i := 1) (v := _) (by simp only [List.getElem?_toArray, List.getElem?_cons_succ, List.getElem?_cons_zero]; rfl) (by kernel_rfl) (by kernel_rfl) (by kernel_rfl) (by intro _ _ _ h; exact h) (Or.inl ⟨by rfl, ?hyv2⟩) hHeld ?restv2
  case hyv2 => (intro w hSw; have c0 := blk_cell hSw 0; have c1 := blk_cell hSw 1; have c2 := blk_cell hSw 2; have c3 := blk_cell hSw 3; have c4 := blk_cell hSw 4; have c5 := blk_cell hSw 5; have c6 := blk_cell hSw 6; have c7 := blk_cell hSw 7; have c8 := blk_cell hSw 8; have c9 := blk_cell hSw 9; have c10 := blk_cell hSw 10; have c11 := blk_cell hSw 11; simp only [List.getElem?_toArray, List.getElem?_cons_zero, List.getElem?_cons_succ] at c0 c1 c2 c3 c4 c5 c6 c7 c8 c9 c10 c11; go_simp; try (with_reducible rfl))
  simp only [Act.put, List.setIfInBounds_toArray, List.set_cons_zero, List.set_cons_succ]
  refine' wpAnyH_take (i := 2) (v := _) (by simp only [List.getElem?_toArray, List.getElem?_cons_succ, List.getElem?_cons_zero]; rfl) (by kernel_rfl) (by kernel_rfl) (by kernel_rfl) (by intro _ _ _ h; exact h) (Or.inl ⟨by rfl, ?hyv3⟩) hHeld ?restv3
  case hyv3 => (intro w hSw; (try dsimp only at hSw); go_simp; try (with_reducible rfl))
  simp only [Act.put, List.setIfInBounds_toArray, List.set_cons_zero, List.set_cons_succ]
  refine' wpAnyH_take (i := 3) (v := _) (by simp only [List.getElem?_toArray, List.getElem?_cons_succ, List.getElem?_cons_zero]; rfl) (by kernel_rfl) (by kernel_rfl) (by kernel_rfl) (by intro _ _ _ h; exact h) (Or.inl ⟨by rfl, ?hyv4⟩) hHeld ?restv4
  case hyv4 => (intro w hSw; have c0 := blk_cell hSw 0; have c1 := blk_cell hSw 1; have c2 := blk_cell hSw 2; have c3 := blk_cell hSw 3; have c4 := blk_cell hSw 4; have c5 := blk_cell hSw 5; have c6 := blk_cell hSw 6; have c7 := blk_cell hSw 7; have c8 := blk_cell hSw 8; have c9 := blk_cell hSw 9; have c10 := blk_cell hSw 10; have c11 := blk_cell hSw 11; simp only [List.getElem?_toArray, List.getElem?_cons_zero, List.getElem?_cons_succ] at c0 c1 c2 c3 c4 c5 c6 c7 c8 c9 c10 c11; go_simp; try (with_reducible rfl))
  simp only [Act.put, List.setIfInBounds_toArray, List.set_cons_zero, List.set_cons_succ]
  refine wpAnyH_ready (rs := [4]) (by kernel_rfl) (by simp) (AllReadyH.cons (by simp only [List.getElem?_toArray, List.getElem?_cons_succ, List.getElem?_cons_zero]; rfl) (fun K hK => ?_) AllReadyH.nil)
  rw [if_pos (by first | rfl | (simp [Region.wanted]; done) | kernel_rfl)]
  go_simp
  refine (stkinv_any2 sn sN _).mono ?_
  rintro e w2 ⟨rfl, ht⟩
  have BR2 := Lib.hid ((((Turn.refl Nope w1).drew).trans ht).blk BR.out fun h => h)
  have T2 := Lib.hid (T0.out.trans (((Turn.refl Nope w1).drew).trans ht))
  have BO2 := Lib.hid ((((Turn.refl Nope w1).drew).trans ht).blk BO.out fun h => h)
  clear ht BR T0 BO
  refine hK.out _ _ ?_ (fun hHeld => ?_)
  · exact BO2.out
  clear hK K
  try simp only [Act.put, List.setIfInBounds_toArray, List.set_cons_zero, List.set_cons_succ]
  refine' wpAnyH_take (i := 5) (v := _) (by simp only [List.getElem?_toArray, List.getElem?_cons_succ, List.getElem?_cons_zero]; rfl) (by kernel_rfl) (by kernel_rfl) (by kernel_rfl) (by intro _ _ _ h; exact h) (Or.inl ⟨by rfl, ?hyv5⟩) hHeld ?restv5
  case hyv5 => (intro w hSw; (try dsimp only at hSw); go_simp; try (with_reducible rfl))
  simp only [Act.put, List.setIfInBounds_toArray, List.set_cons_zero, List.set_cons_succ]
  refine wpAnyH_ready (rs := [6]) (by kernel_rfl) (by simp) (AllReadyH.cons (by simp only [List.getElem?_toArray, List.getElem?_cons_succ, List.getElem?_cons_zero]; rfl) (fun K hK => ?_) AllReadyH.nil)
  rw [if_pos (by first | rfl | (simp [Region.wanted]; done) | kernel_rfl)]
  obtain ⟨c0, c1, c2, c3, c4, c5, c6, c7, c8, c9, c10, c11⟩ : w2.cell? ⟨gr, 0, none⟩ = some (.int .i64 0) ∧ w2.cell? ⟨gr, 1, none⟩ = some (.int .i64 0) ∧ w2.cell? ⟨gr, 2, none⟩ = some (.int .i64 0) ∧ w2.cell? ⟨gr, 3, none⟩ = some (.string ⟨#[]⟩) ∧ w2.cell? ⟨gr, 4, none⟩ = some (.int .i64 0) ∧ w2.cell? ⟨gr, 5, none⟩ = some (.int .i64 0) ∧ w2.cell? ⟨gr, 6, none⟩ = some (.string ⟨#[]⟩) ∧ w2.cell? ⟨gr, 7, none⟩ = some (.string ⟨#[]⟩) ∧ w2.cell? ⟨gr, 8, none⟩ = some (.int .i64 0) ∧ w2.cell? ⟨gr, 9, none⟩ = some (.int .i64 0) ∧ w2.cell? ⟨gr, 10, none⟩ = some (.string ⟨#[]⟩) ∧ w2.cell? ⟨gr, 11, none⟩ = some (.int .i64 0) := ⟨by rw [blk_cell BR2.out]; rfl, by rw [blk_cell BR2.out]; rfl, by rw [blk_cell BR2.out]; rfl, by rw [blk_cell BR2.out]; rfl, by rw [blk_cell BR2.out]; rfl, by rw [blk_cell BR2.out]; rfl, by rw [blk_cell BR2.out]; rfl, by rw [blk_cell BR2.out]; rfl, by rw [blk_cell BR2.out]; rfl, by rw [blk_cell BR2.out]; rfl, by rw [blk_cell BR2.out]; rfl, by rw [blk_cell BR2.out]; rfl⟩
  have f0 := blk_frozen BR2.out 0
  have f1 := blk_frozen BR2.out 1
  have f2 := blk_frozen BR2.out 2
  have f3 := blk_frozen BR2.out 3
  have f4 := blk_frozen BR2.out 4
  have f5 := blk_frozen BR2.out 5
  have f6 := blk_frozen BR2.out 6
  have f7 := blk_frozen BR2.out 7
  have f8 := blk_frozen BR2.out 8
  have f9 := blk_frozen BR2.out 9
  have f10 := blk_frozen BR2.out 10
  have f11 := blk_frozen BR2.out 11
  go_simp
  refine hK.out _ _ ?_ (fun hHeld => ?_)
  · exact far12b BO2.out HG.out.2.symm (.int .i64 3) (.int .i64 0) (.int .i64 0) (.string ⟨#[]⟩) (.int .i64 0) (.int .i64 0) (.string ⟨#[]⟩) (.string ⟨#[]⟩) (.int .i64 0) (.int .i64 1) (.string sn) (.int .i64 sN)
  clear hK K
  try simp only [Act.put, List.setIfInBounds_toArray, List.set_cons_zero, List.set_cons_succ]
  refine wpAnyH_done (by kernel_rfl) ?_ _
  go_wp2_with fail
  exact bodyPost_ret (results_c rfl _ _ gr 30 #[.int .i64 3, .int .i64 0, .int .i64 0, .string ⟨#[]⟩, .int .i64 0, .int .i64 0, .string ⟨#[]⟩, .string ⟨#[]⟩, .int .i64 0, .int .i64 1, .string sn, .int .i64 sN] (0, 0) _ rfl (blk_put12 BR2.out) Try.underlying30 rfl (by kernel_rfl)) rfl ⟨rfl, turn_put12 T2.out (.inr HG.out.1) _ _ _ _ _ _ _ _ _ _ _ _⟩
theorem oinv_any (o : OOp) (er : Int) (gone : ByteArray) (h : OKd o) (w : World) : Calls Try.prog 14 #[.agg (opC o), .agg #[.int .i64 er, .string gone]] w fun e w' => e = .returned (.agg (opC (oinv o gone))) ∧ Turn Nope w w' := by
  obtain ⟨k, tk, ta, ts, tn, lk, ln, lt, la, sk, sn, sN⟩ := o
  rcases h with ⟨hk, h⟩ | ⟨hk, h⟩ | ⟨hk, h⟩
  · obtain rfl : k = 1 := hk
    rcases h with h | h
    · obtain rfl : tk = 1 := h
      exact inv_t1 1 ta ts tn lk ln lt la sk sn sN er gone w
    · obtain rfl : tk = 2 := h
      exact inv_t2 2 ta ts tn lk ln lt la sk sn sN er gone w
  · obtain rfl : k = 2 := hk
    rcases h with h | h | h
    · obtain rfl : lk = 1 := h
      exact inv_l1 tk ta ts tn 1 ln lt la sk sn sN er gone w
    · obtain rfl : lk = 2 := h
      exact inv_l2 tk ta ts tn 2 ln lt la sk sn sN er gone w
    · obtain rfl : lk = 3 := h
      exact inv_l3 tk ta ts tn 3 ln lt la sk sn sN er gone w
  · obtain rfl : k = 3 := hk
    rcases h with h | h
    · obtain rfl : sk = 1 := h
      exact inv_s1 tk ta ts tn lk ln lt la 1 sn sN er gone w
    · obtain rfl : sk = 2 := h
      exact inv_s2 tk ta ts tn lk ln lt la 2 sn sN er gone w
end Go.Proofs.Yteggenihjhclkaa
