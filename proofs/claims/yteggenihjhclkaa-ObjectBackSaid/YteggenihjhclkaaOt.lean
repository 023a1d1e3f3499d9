/- The document's side of an object's ops: Told, shared, Apart, walked. -/
import Derived.Test.YteggenihjhclkaaOs
set_option maxRecDepth 16000
set_option linter.unusedVariables false
set_option linter.unusedSimpArgs false
namespace Go.Proofs.Yteggenihjhclkaa
open Go.RowKit Go.Maps
open Lg (Nm nmOf arr_nm nm_len)
variable {w0 w w' W W' : World} {b m c : Nat} {P Q R : PS}
set_option maxHeartbeats 8000000 in
theorem told_any (o : OOp) (w : World) : Calls Try.prog 11 #[.agg (opC o)] w fun e w' => e = .returned (.agg (opC o)) ∧ Turn Nope w w' := by
  unfold opC
  go_enter Try.func11, Try.ntmps11
  go_wp2_with fail
  exact bodyPost_ret (v := .agg #[.int .i64 o.k, .int .i64 o.tk, .int .i64 o.ta, .string o.ts, .int .i64 o.tn, .int .i64 o.lk, .string o.ln, .string o.lt, .int .i64 o.la, .int .i64 o.sk, .string o.sn, .int .i64 o.sN]) (by simp [results, Try.results11, go_sem]) rfl ⟨rfl, by repeat (first | exact Turn.refl _ _ | apply Turn.alloc)⟩
def sh (x y : ByteArray) : Bool := decide (nmOf x = nmOf y ∧ nmOf x ≠ [])
theorem shared_any (x y : ByteArray) (w : World) : Calls Try.prog 23 #[.string x, .string y] w fun e w' => e = .returned (.bool (sh x y)) ∧ w' = w := by
  by_cases h : nmOf x = nmOf y
  · obtain rfl := Lg.nm_inj h
    have z1 : (x.toList == x.toList) = true := by simp
    by_cases h0 : nmOf x = []
    · have z2 : (x.toList != []) = false := by rw [Lg.tl, h0]; rfl
      have z3 : x.toList.isEmpty = true := by rw [Lg.tl, h0]; rfl
      have e : sh x x = false := by unfold sh; simp [h0]
      rw [e]
      clear h h0 e
      go_enter Try.func23, Try.ntmps23
      go_wp2_with fail
      go_ret
      exact ⟨rfl, rfl⟩
    · have z2 : (x.toList != []) = true := by rw [Lg.tl, bne_iff_ne]; exact h0
      have z3 : x.toList.isEmpty = false := by rw [← Bool.not_eq_true, List.isEmpty_iff, Lg.tl]; exact h0
      have e : sh x x = true := by unfold sh; simp [h0]
      rw [e]
      clear h h0 e
      go_enter Try.func23, Try.ntmps23
      go_wp2_with fail
      go_ret
      exact ⟨rfl, rfl⟩
  · have z1 : (x.toList == y.toList) = false := by rw [Lg.tl, Lg.tl, beq_eq_false_iff_ne]; exact h
    have e : sh x y = false := by unfold sh; simp [h]
    rw [e]
    clear h e
    go_enter Try.func23, Try.ntmps23
    go_wp2_with fail
    go_ret
    exact ⟨rfl, rfl⟩
theorem sh_any (a b : OOp) : (!sh a.ln b.ln && !sh a.ln b.lt && !sh a.lt b.ln && !sh a.lt b.lt) = !decide (∃ x ∈ Lg.tch (nmOf a.ln) (nmOf a.lt) 2, x ∈ Lg.tch (nmOf b.ln) (nmOf b.lt) 2) := by
  rw [Bool.eq_iff_iff]
  simp only [Bool.and_eq_true, Bool.not_eq_true', decide_eq_false_iff_not, sh]
  constructor
  · rintro ⟨⟨⟨h1, h2⟩, h3⟩, h4⟩ ⟨x, hx, hy⟩
    obtain ⟨hx1, hx2⟩ := (Lg.tch_mem _ _ _).1 hx
    obtain ⟨hy1, _⟩ := (Lg.tch_mem _ _ _).1 hy
    rcases hx1 with rfl | rfl <;> rcases hy1 with e | e
    · exact h1 ⟨e, hx2⟩
    · exact h2 ⟨e, hx2⟩
    · exact h3 ⟨e, hx2⟩
    · exact h4 ⟨e, hx2⟩
  · intro h
    refine ⟨⟨⟨fun e => h ?_, fun e => h ?_⟩, fun e => h ?_⟩, fun e => h ?_⟩
    · exact ⟨_, (Lg.tch_mem _ _ _).2 ⟨.inl rfl, e.2⟩, (Lg.tch_mem _ _ _).2 ⟨.inl e.1, e.2⟩⟩
    · exact ⟨_, (Lg.tch_mem _ _ _).2 ⟨.inl rfl, e.2⟩, (Lg.tch_mem _ _ _).2 ⟨.inr e.1, e.2⟩⟩
    · exact ⟨_, (Lg.tch_mem _ _ _).2 ⟨.inr rfl, e.2⟩, (Lg.tch_mem _ _ _).2 ⟨.inl e.1, e.2⟩⟩
    · exact ⟨_, (Lg.tch_mem _ _ _).2 ⟨.inr rfl, e.2⟩, (Lg.tch_mem _ _ _).2 ⟨.inr e.1, e.2⟩⟩
theorem oa_ne {a b : OOp} (h : a.k ≠ b.k) : oApart a b = false := by unfold oApart; simp [h]
theorem oa_no {a b : OOp} (h2 : a.k ≠ 2) (h3 : a.k ≠ 3) : oApart a b = false := by unfold oApart; simp [h2, h3]
theorem oa_3 {a b : OOp} (h : a.k = b.k) (h3 : a.k = 3) : oApart a b = decide (nmOf a.sn ≠ nmOf b.sn) := by
  have hb : b.k = 3 := by rw [← h]; exact h3
  unfold oApart touchL
  simp [h, h3, hb]
theorem oa_2 {a b : OOp} (h : a.k = b.k) (h2 : a.k = 2) : oApart a b = (!sh a.ln b.ln && !sh a.ln b.lt && !sh a.lt b.ln && !sh a.lt b.lt) := by
  have hb : b.k = 2 := by rw [← h]; exact h2
  rw [sh_any]
  unfold oApart touchL
  simp [h, h2, hb]
set_option maxHeartbeats 8000000 in
theorem refapart_any (a b : OOp) (w : World) : Calls Try.prog 10 #[.agg (opC a), .agg (opC b)] w fun e w' => e = .returned (.bool (oApart a b)) ∧ Turn Nope w w' := by
  have hTT : Turn Nope w ((w.alloc (.cells #[.int .i64 a.k, .int .i64 a.tk, .int .i64 a.ta, .string a.ts, .int .i64 a.tn, .int .i64 a.lk, .string a.ln, .string a.lt, .int .i64 a.la, .int .i64 a.sk, .string a.sn, .int .i64 a.sN] 40)).alloc (.cells #[.int .i64 b.k, .int .i64 b.tk, .int .i64 b.ta, .string b.ts, .int .i64 b.tn, .int .i64 b.lk, .string b.ln, .string b.lt, .int .i64 b.la, .int .i64 b.sk, .string b.sn, .int .i64 b.sN] 40)) := ((Turn.refl _ _).alloc _).alloc _
  have HTT := Lib.hid hTT
  clear hTT
  by_cases hk : a.k = b.k
  · have k1 : (a.k != b.k) = false := by simpa using hk
    by_cases h3 : a.k = 3
    · have e := oa_3 hk h3
      have d1 : decide (a.k < 2) = false := by simp; omega
      have d2 : decide (3 < a.k) = false := by simp; omega
      have d3 : (a.k == 3) = true := by simpa using h3
      have hv : (!(a.sn.toList == b.sn.toList)) = oApart a b := by
        rw [e, Lg.tl, Lg.tl, Bool.eq_iff_iff]
        simp
      have HV := Lib.hid hv
      unfold opC
      clear e hk h3 hv
      go_enter Try.func10, Try.ntmps10
      go_wp2_with fail
      go_ret
      exact ⟨by rw [← HV.out]; rfl, HTT.out⟩
    · by_cases h2 : a.k = 2
      · have e := oa_2 hk h2
        have d1 : decide (a.k < 2) = false := by simp; omega
        have d2 : decide (3 < a.k) = false := by simp; omega
        have d3 : (a.k == 3) = false := by simpa using h3
        rw [e]
        clear e
        obtain ⟨s1, hs1⟩ : ∃ s, sh a.ln b.ln = s := ⟨_, rfl⟩
        obtain ⟨s2, hs2⟩ : ∃ s, sh a.ln b.lt = s := ⟨_, rfl⟩
        obtain ⟨s3, hs3⟩ : ∃ s, sh a.lt b.ln = s := ⟨_, rfl⟩
        obtain ⟨s4, hs4⟩ : ∃ s, sh a.lt b.lt = s := ⟨_, rfl⟩
        rw [hs1, hs2, hs3, hs4]
        have HS := Lib.hid (And.intro hs1 (And.intro hs2 (And.intro hs3 hs4)))
        unfold opC
        clear hk h3 h2 hs1 hs2 hs3 hs4
        go_enter Try.func10, Try.ntmps10
        go_wp2_with fail
        refine (shared_any a.ln b.ln _).mono ?_
        rintro e x1 ⟨rfl, rfl⟩
        rw [HS.out.1]
        cases s1 with
        | true =>
          go_wp2_with fail
          go_ret
          exact ⟨rfl, HTT.out⟩
        | false =>
          go_wp2_with fail
          refine (shared_any a.ln b.lt _).mono ?_
          rintro e x1 ⟨rfl, rfl⟩
          rw [HS.out.2.1]
          cases s2 with
          | true =>
            go_wp2_with fail
            go_ret
            exact ⟨rfl, HTT.out⟩
          | false =>
            go_wp2_with fail
            refine (shared_any a.lt b.ln _).mono ?_
            rintro e x1 ⟨rfl, rfl⟩
            rw [HS.out.2.2.1]
            cases s3 with
            | true =>
              go_wp2_with fail
              go_ret
              exact ⟨rfl, HTT.out⟩
            | false =>
              go_wp2_with fail
              refine (shared_any a.lt b.lt _).mono ?_
              rintro e x1 ⟨rfl, rfl⟩
              rw [HS.out.2.2.2]
              cases s4 with
              | true =>
                go_wp2_with fail
                go_ret
                exact ⟨rfl, HTT.out⟩
              | false =>
                go_wp2_with fail
                go_ret
                exact ⟨rfl, HTT.out⟩
      · have e := oa_no (b := b) h2 h3
        rw [e]
        unfold opC
        by_cases hl : a.k < 2
        · have d1 : decide (a.k < 2) = true := by simpa using hl
          clear e hk h3 h2 hl
          go_enter Try.func10, Try.ntmps10
          go_wp2_with fail
          go_ret
          exact ⟨rfl, HTT.out⟩
        · have d1 : decide (a.k < 2) = false := by simpa using hl
          have d2 : decide (3 < a.k) = true := by simp; omega
          clear e hk h3 h2 hl
          go_enter Try.func10, Try.ntmps10
          go_wp2_with fail
          go_ret
          exact ⟨rfl, HTT.out⟩
  · have k1 : (a.k != b.k) = true := by simpa using hk
    rw [oa_ne hk]
    unfold opC
    clear hk
    go_enter Try.func10, Try.ntmps10
    go_wp2_with fail
    go_ret
    exact ⟨rfl, HTT.out⟩
theorem oa_comm (a b : OOp) : oApart a b = oApart b a := by
  unfold oApart
  by_cases h : a.k = b.k
  · have e : (∃ x ∈ touchL a, x ∈ touchL b) ↔ ∃ x ∈ touchL b, x ∈ touchL a := ⟨fun ⟨x, h1, h2⟩ => ⟨x, h2, h1⟩, fun ⟨x, h1, h2⟩ => ⟨x, h2, h1⟩⟩
    simp [h, e]
  · have h2 : ¬ b.k = a.k := fun e => h e.symm
    simp [h, h2]
end Go.Proofs.Yteggenihjhclkaa
