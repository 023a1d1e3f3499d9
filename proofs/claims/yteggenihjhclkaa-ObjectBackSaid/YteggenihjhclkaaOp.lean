/- APART, of objects of any kind: the plain law. -/
import Derived.Test.YteggenihjhclkaaOt
set_option maxRecDepth 16000
set_option linter.unusedVariables false
set_option linter.unusedSimpArgs false
namespace Go.Proofs.Yteggenihjhclkaa
open Go.RowKit Go.Maps
variable {P Q R : PS}
/-- How many accounts, goods there are. -/
def PS.size : PS → Nat
  | .tx _ => 0
  | .lg _ K => K.length - 1
  | .sk _ K => K.length
theorem PS.eqv.size (h : P.eqv Q) : Q.size = P.size := by
  cases P <;> cases Q <;> first | exact h.elim | rfl | exact h.2.length_eq | (show _ - 1 = _ - 1; rw [h.2.length_eq])
theorem PS.size_new (k : Nat) : (PS.new k).size = 0 := by
  unfold PS.new
  split
  · rfl
  · split <;> rfl
theorem PS.size_nxt (P : PS) (o : OOp) : (P.nxt o).size ≤ P.size + 1 := by
  cases P with
  | tx s => unfold PS.nxt; dsimp only; split <;> exact Nat.zero_le _
  | lg C K =>
    unfold PS.nxt
    dsimp only
    split
    · have h : (Lg.doK C K (lgOp o)).length ≤ K.length + 1 := by
        unfold Lg.doK Lg.newK
        split
        · split
          · exact Nat.le_refl _
          · split
            · exact Nat.le_succ_of_le List.length_erase_le
            · exact Nat.le_succ _
        · exact Nat.le_succ _
      show (Lg.doK C K (lgOp o)).length - 1 ≤ K.length - 1 + 1
      omega
    · exact Nat.le_succ _
  | sk C K =>
    unfold PS.nxt
    dsimp only
    split
    · show (Sk.doK C K (skOp o)).length ≤ K.length + 1
      unfold Sk.doK Sk.newK
      split
      · split
        · split
          · exact Nat.le_succ_of_le List.length_erase_le
          · exact Nat.le_succ _
        · split
          · exact Nat.le_refl _
          · exact Nat.le_succ _
      · exact Nat.le_succ _
    · exact Nat.le_succ _
theorem lg_back {C : Lg.Nm → Int} {K : List Lg.Nm} {p q : Lg.Op4} (hB : Lg.Book C K) (hp : Lg.doE C K p = 0) (hq : Lg.doE (Lg.newC C p) (Lg.newK K p) q = 0) (hf : Lg.Far p q) (hl : K.length ≤ 15) : Lg.doE C K q = 0 := by
  obtain ⟨pc, p1, p2, p3⟩ := Lg.doE_ok hp
  obtain ⟨qc, q1, q2, q3⟩ := Lg.doE_ok hq
  obtain ⟨c1, c2, c3, c4, c5, c6⟩ := Lg.chk_ok qc
  obtain ⟨d1, d2, d3, d4, d5, d6⟩ := Lg.chk_ok pc
  have hin : ∀ y, (y = q.nm ∨ y = q.dt) → y ∈ Lg.newK K p → y ∈ K := fun y hy hm => by
    rcases (Lg.newK_mem hf pc hy).1 hm with h | ⟨h1, h2⟩
    · exact h
    · exfalso
      have hn := (d6 (by omega)).1
      rw [h2] at hy
      rcases hy with e | e
      · exact (hf.nm hn (.inl rfl)).1 e
      · exact (hf.nm hn (.inl rfl)).2 e
  unfold Lg.doE
  rw [if_neg (by rw [qc]; decide)]
  by_cases hk1 : q.k = 1
  · rw [if_pos hk1, if_neg (fun e => (q1 hk1).1 ((Lg.newK_mem hf pc (.inl rfl)).2 (.inl e))), if_neg (by omega)]
  · rw [if_neg hk1]
    by_cases hk2 : q.k = 2
    · have hn := (c6 (by omega)).1
      have h2 := q2 hk2
      rw [Lg.newC_far hf hn (.inl rfl) pc] at h2
      rw [if_neg (fun e => e (hin _ (.inl rfl) h2.1)), if_pos hk2, if_neg (fun e => e h2.2)]
    · have hk3 : q.k = 3 := by omega
      obtain ⟨a1, a2, a3, a4⟩ := q3 hk3
      rw [if_neg (fun e => e (hin _ (.inl rfl) a1)), if_neg hk2, if_neg (fun e => e (hin _ (.inr rfl) a2)), if_neg, if_neg]
      · rintro ⟨e1, e2⟩
        have := a4 e1
        rw [Lg.newC_far hf e1 (.inr rfl) pc] at this
        omega
      · rintro ⟨e1, e2⟩
        have := a3 e1
        rw [Lg.newC_far hf e1 (.inl rfl) pc] at this
        omega
theorem sk_apart {C : Sk.Nm → Int} {K : List Sk.Nm} {p q : Sk.Op3} (hG : Sk.Good C K) (hp : Sk.doE C K p = 0) (hq : Sk.doE (Sk.newC C p) (Sk.newK C K p) q = 0) (hn : p.nm ≠ q.nm) (hl : K.length ≤ 14) :
    Sk.doE C K q = 0 ∧ Sk.doE (Sk.newC C q) (Sk.newK C K q) p = 0 ∧ Sk.newC (Sk.newC C p) q = Sk.newC (Sk.newC C q) p := by
  have chk0 : ∀ {C : Sk.Nm → Int} {K : List Sk.Nm} {o : Sk.Op3}, Sk.doE C K o = 0 → Sk.chk o = 0 := fun {C K o} h => by
    unfold Sk.doE at h
    by_cases hc : Sk.chk o = 0
    · exact hc
    · rw [if_pos hc] at h; exact absurd h hc
  obtain ⟨pk, p1, p2, p3, p4, pt, pa⟩ := Sk.doE_ok hp
  obtain ⟨qk, q1, q2, q3, q4, qt, qa⟩ := Sk.doE_ok hq
  have f1 : Sk.newC C p q.nm = C q.nm := Sk.newC_far (fun e => hn e.symm)
  have f2 : Sk.newC C q p.nm = C p.nm := Sk.newC_far hn
  rw [f1] at qt qa
  have hl2 : (Sk.newK C K q).length ≤ 15 := by
    unfold Sk.newK
    split
    · split
      · have := List.length_erase_le (a := q.nm) (l := K); omega
      · omega
    · split
      · rw [List.length_cons]; omega
      · omega
  refine ⟨?_, ?_, ?_⟩
  · unfold Sk.doE
    rw [if_neg (by rw [chk0 hq]; decide)]
    by_cases hk : q.k = 2
    · rw [if_pos hk, if_neg (qt hk).1, if_neg (by have := (qt hk).2; omega)]
    · have hk1 : q.k = 1 := by rcases qk with h | h; exact h; exact absurd h hk
      rw [if_neg hk, if_neg (fun e => by omega), if_neg (by have := (qa hk1).2; omega)]
  · unfold Sk.doE
    rw [if_neg (by rw [chk0 hp]; decide), f2]
    by_cases hk : p.k = 2
    · rw [if_pos hk, if_neg (pt hk).1, if_neg (by have := (pt hk).2; omega)]
    · have hk1 : p.k = 1 := by rcases pk with h | h; exact h; exact absurd h hk
      rw [if_neg hk, if_neg (fun e => by omega), if_neg (by have := (pa hk1).2; omega)]
  · funext y
    by_cases hy : y = q.nm
    · subst hy
      rw [Sk.newC_at, f1, Sk.newC_far (o := p) (C := Sk.newC C q) (fun e => hn e.symm), Sk.newC_at]
    · rw [Sk.newC_far (o := q) hy]
      by_cases hy2 : y = p.nm
      · subst hy2
        rw [Sk.newC_at, Sk.newC_at, f2]
      · rw [Sk.newC_far hy2, Sk.newC_far hy2, Sk.newC_far hy]
theorem apartP (hok : P.ok) (a b : OOp) (ha : P.err a = 0) (hb : (P.nxt a).err b = 0) (hap : oApart a b = true) (hs : P.size ≤ 14) :
    P.err b = 0 ∧ (P.nxt b).err a = 0 ∧ ((P.nxt b).nxt a).saved = ((P.nxt a).nxt b).saved := by
  unfold oApart at hap
  simp only [Bool.and_eq_true, decide_eq_true_iff, Bool.not_eq_true', decide_eq_false_iff_not] at hap
  obtain ⟨⟨⟨hk, hka⟩, hkb⟩, hap⟩ := hap
  cases P with
  | tx s =>
    exfalso
    unfold PS.err at ha
    dsimp only at ha
    rw [if_neg (by omega)] at ha
    cases ha
  | lg C K =>
    have hs : K.length - 1 ≤ 14 := hs
    have hka2 : a.k = 2 := by
      unfold PS.err at ha
      dsimp only at ha
      by_cases h : a.k = 2
      · exact h
      · rw [if_neg h] at ha; cases ha
    have hkb2 : b.k = 2 := by omega
    unfold touchL at hap
    rw [if_pos hka2, if_pos hkb2] at hap
    have hf : Lg.Far (lgOp a) (lgOp b) := fun x hx y hy e => hap ⟨x, hx, by rw [e]; exact hy⟩
    have ea : (PS.lg C K).err a = Lg.doE C K (lgOp a) := by unfold PS.err; dsimp only; rw [if_pos hka2]
    rw [ea] at ha
    have na : (PS.lg C K).nxt a = .lg (Lg.newC C (lgOp a)) (Lg.newK K (lgOp a)) := by
      unfold PS.nxt Lg.doC Lg.doK; dsimp only; rw [if_pos hka2, if_pos ha, if_pos ha]
    rw [na] at hb ⊢
    have eb : (PS.lg (Lg.newC C (lgOp a)) (Lg.newK K (lgOp a))).err b = Lg.doE (Lg.newC C (lgOp a)) (Lg.newK K (lgOp a)) (lgOp b) := by unfold PS.err; dsimp only; rw [if_pos hkb2]
    rw [eb] at hb
    have h1 := lg_back hok.1 ha hb hf (by omega)
    have h2 := Lg.apart_ok hok.1 h1 ha hf.symm (by omega)
    have eb1 : (PS.lg C K).err b = Lg.doE C K (lgOp b) := by unfold PS.err; dsimp only; rw [if_pos hkb2]
    have nb : (PS.lg C K).nxt b = .lg (Lg.newC C (lgOp b)) (Lg.newK K (lgOp b)) := by
      unfold PS.nxt Lg.doC Lg.doK; dsimp only; rw [if_pos hkb2, if_pos h1, if_pos h1]
    have ea1 : (PS.lg (Lg.newC C (lgOp b)) (Lg.newK K (lgOp b))).err a = Lg.doE (Lg.newC C (lgOp b)) (Lg.newK K (lgOp b)) (lgOp a) := by unfold PS.err; dsimp only; rw [if_pos hka2]
    have nba : (PS.lg (Lg.newC C (lgOp b)) (Lg.newK K (lgOp b))).nxt a = .lg (Lg.newC (Lg.newC C (lgOp b)) (lgOp a)) (Lg.newK (Lg.newK K (lgOp b)) (lgOp a)) := by
      unfold PS.nxt Lg.doC Lg.doK; dsimp only; rw [if_pos hka2, if_pos h2, if_pos h2]
    have nab : (PS.lg (Lg.newC C (lgOp a)) (Lg.newK K (lgOp a))).nxt b = .lg (Lg.newC (Lg.newC C (lgOp a)) (lgOp b)) (Lg.newK (Lg.newK K (lgOp a)) (lgOp b)) := by
      unfold PS.nxt Lg.doC Lg.doK; dsimp only; rw [if_pos hkb2, if_pos hb, if_pos hb]
    rw [eb1, nb, ea1, nba, nab]
    refine ⟨h1, h2, ?_⟩
    show Lg.savedS _ _ = Lg.savedS _ _
    rw [Lg.newC_comm (Lg.doE_ok h1).1 (Lg.doE_ok ha).1]
    exact Lg.saved_same (Lg.newK_comm (Lg.doE_ok h1).1 (Lg.doE_ok ha).1 hf.symm)
  | sk C K =>
    have hs : K.length ≤ 14 := hs
    have hka2 : a.k = 3 := by
      unfold PS.err at ha
      dsimp only at ha
      by_cases h : a.k = 3
      · exact h
      · rw [if_neg h] at ha; cases ha
    have hkb2 : b.k = 3 := by omega
    unfold touchL at hap
    rw [if_neg (by omega), if_pos hka2, if_neg (by omega), if_pos hkb2] at hap
    have hf : (skOp a).nm ≠ (skOp b).nm := fun e => hap ⟨_, List.mem_singleton.2 rfl, List.mem_singleton.2 e⟩
    have ea : (PS.sk C K).err a = Sk.doE C K (skOp a) := by unfold PS.err; dsimp only; rw [if_pos hka2]
    rw [ea] at ha
    have na : (PS.sk C K).nxt a = .sk (Sk.newC C (skOp a)) (Sk.newK C K (skOp a)) := by
      unfold PS.nxt Sk.doC Sk.doK; dsimp only; rw [if_pos hka2, if_pos ha, if_pos ha]
    rw [na] at hb ⊢
    have eb : (PS.sk (Sk.newC C (skOp a)) (Sk.newK C K (skOp a))).err b = Sk.doE (Sk.newC C (skOp a)) (Sk.newK C K (skOp a)) (skOp b) := by unfold PS.err; dsimp only; rw [if_pos hkb2]
    rw [eb] at hb
    obtain ⟨h1, h2, hcm⟩ := sk_apart hok ha hb hf hs
    have eb1 : (PS.sk C K).err b = Sk.doE C K (skOp b) := by unfold PS.err; dsimp only; rw [if_pos hkb2]
    have nb : (PS.sk C K).nxt b = .sk (Sk.newC C (skOp b)) (Sk.newK C K (skOp b)) := by
      unfold PS.nxt Sk.doC Sk.doK; dsimp only; rw [if_pos hkb2, if_pos h1, if_pos h1]
    have ea1 : (PS.sk (Sk.newC C (skOp b)) (Sk.newK C K (skOp b))).err a = Sk.doE (Sk.newC C (skOp b)) (Sk.newK C K (skOp b)) (skOp a) := by unfold PS.err; dsimp only; rw [if_pos hka2]
    have nba : (PS.sk (Sk.newC C (skOp b)) (Sk.newK C K (skOp b))).nxt a = .sk (Sk.newC (Sk.newC C (skOp b)) (skOp a)) (Sk.newK (Sk.newC C (skOp b)) (Sk.newK C K (skOp b)) (skOp a)) := by
      unfold PS.nxt Sk.doC Sk.doK; dsimp only; rw [if_pos hka2, if_pos h2, if_pos h2]
    have nab : (PS.sk (Sk.newC C (skOp a)) (Sk.newK C K (skOp a))).nxt b = .sk (Sk.newC (Sk.newC C (skOp a)) (skOp b)) (Sk.newK (Sk.newC C (skOp a)) (Sk.newK C K (skOp a)) (skOp b)) := by
      unfold PS.nxt Sk.doC Sk.doK; dsimp only; rw [if_pos hkb2, if_pos hb, if_pos hb]
    have g1 := (hok.put ha).put hb
    have g2 := (hok.put h1).put h2
    rw [eb1, nb, ea1, nba, nab]
    refine ⟨h1, h2, ?_⟩
    show Sk.savedS _ _ = Sk.savedS _ _
    rw [← hcm] at g2 ⊢
    exact Sk.saved_same g2 g1
end Go.Proofs.Yteggenihjhclkaa
