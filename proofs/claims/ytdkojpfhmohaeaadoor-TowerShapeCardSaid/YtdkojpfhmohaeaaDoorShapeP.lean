/- Which keys two towers have: plain. -/
import Derived.Test.YtdkojpfhmohaeaaDoorSame
set_option linter.unusedVariables false
namespace Go.Proofs.YtdkojpfhmohaeaaDoor
open Go.RowKit TI
def Up (l : List Int) : Prop := l.Pairwise (· < ·)
theorem up_sub : ∀ {B A : List Int}, Up B → Up A → (∀ x ∈ A, x ∈ B) → A.Sublist B
  | [], A, _, _, h => by
    cases A with
    | nil => exact List.Sublist.slnil
    | cons a A => exact absurd (h a List.mem_cons_self) (List.not_mem_nil)
  | b :: B, [], _, _, _ => List.nil_sublist _
  | b :: B, a :: A, hB, hA, h => by
    have hB' := List.pairwise_cons.1 hB
    have hA' := List.pairwise_cons.1 hA
    by_cases e : a = b
    · subst e
      refine List.Sublist.cons_cons _ (up_sub hB'.2 hA'.2 fun x hx => ?_)
      have h1 := hA'.1 x hx
      rcases List.mem_cons.1 (h x (List.mem_cons_of_mem _ hx)) with h2 | h2
      · omega
      · exact h2
    · have hab : b < a := by
        rcases List.mem_cons.1 (h a List.mem_cons_self) with h2 | h2
        · exact absurd h2 e
        · exact hB'.1 a h2
      refine List.Sublist.cons _ (up_sub hB'.2 hA fun x hx => ?_)
      have h1 : b < x := by
        rcases List.mem_cons.1 hx with h2 | h2
        · omega
        · have := hA'.1 x h2; omega
      rcases List.mem_cons.1 (h x hx) with h2 | h2
      · omega
      · exact h2
def ky (t : List (Int × Int)) : List Int := t.map (·.1)
theorem ky_len (t : List (Int × Int)) : (ky t).length = t.length := List.length_map _
theorem ky_up {t : List (Int × Int)} (h : SortedT t) : Up (ky t) := by
  unfold Up ky; rw [List.pairwise_map]; exact h
theorem levelT_ky (k : Nat) (t : List (Int × Int)) : levelT k t = (ky t).filter fun x => decide (k < hgt x) := by
  unfold levelT ky; rw [List.filter_map]; rfl
theorem ky_ins {t : List (Int × Int)} (h : SortedT t) (v u x : Int) : x ∈ ky (insT (v, u) t) ↔ x = v ∨ x ∈ ky t := by
  unfold ky
  simp only [List.mem_map]
  constructor
  · rintro ⟨y, hy, rfl⟩
    rcases (insT_mem h).1 hy with rfl | ⟨h1, _⟩
    · exact .inl rfl
    · exact .inr ⟨y, h1, rfl⟩
  · rintro (rfl | ⟨y, hy, rfl⟩)
    · exact ⟨_, (insT_mem h).2 (.inl rfl), rfl⟩
    · by_cases e : y.1 = v
      · exact ⟨_, (insT_mem h).2 (.inl rfl), e.symm⟩
      · exact ⟨y, (insT_mem h).2 (.inr ⟨hy, e⟩), rfl⟩
theorem ky_cut (t : List (Int × Int)) (a b x : Int) : x ∈ ky (cutT a b t) ↔ x ∈ ky t ∧ (x < a ∨ b ≤ x) := by
  unfold ky cutT
  simp only [List.mem_map, List.mem_filter, decide_eq_true_eq]
  constructor
  · rintro ⟨y, ⟨h1, h2⟩, rfl⟩; exact ⟨⟨y, h1, rfl⟩, h2⟩
  · rintro ⟨⟨y, h1, rfl⟩, h2⟩; exact ⟨y, ⟨h1, h2⟩, rfl⟩
/-- The first tower behind i steps. -/
def ShA (ls : Nat → Int) (i : Nat) (t : List (Int × Int)) : Prop := SortedT t ∧ t.length ≤ i ∧ ∀ x, x ∈ ky t ↔ ∃ j, j < i ∧ ls j = x
theorem ShA.nil (ls : Nat → Int) : ShA ls 0 [] := ⟨List.Pairwise.nil, Nat.le_refl _, fun x => by simp [ky]⟩
theorem ShA.add {ls : Nat → Int} {i : Nat} {t : List (Int × Int)} (h : ShA ls i t) (u : Int) : ShA ls (i + 1) (insT (ls i, u) t) := by
  refine ⟨insT_sorted _ h.1, Nat.le_trans (insT_len _ _) (Nat.succ_le_succ h.2.1), fun x => ?_⟩
  rw [ky_ins h.1, h.2.2]
  constructor
  · rintro (rfl | ⟨j, hj, e⟩)
    · exact ⟨i, Nat.lt_succ_self i, rfl⟩
    · exact ⟨j, by omega, e⟩
  · rintro ⟨j, hj, e⟩
    by_cases hji : j = i
    · subst hji; exact .inl e.symm
    · exact .inr ⟨j, by omega, e⟩
/-- The second one: it has what came from place m on, and others only where others came in. -/
def ShB (ls : Nat → Int) (n m q B : Nat) (t : List (Int × Int)) : Prop := SortedT t ∧ t.length ≤ B ∧ (∀ j, m ≤ j → j < n → ls j ∈ ky t) ∧ (q = 0 → ∀ x ∈ ky t, ∃ j, j < n ∧ ls j = x)
theorem ShB.nil (ls : Nat → Int) (n q : Nat) : ShB ls n n q 0 [] := ⟨List.Pairwise.nil, Nat.le_refl _, fun j h1 h2 => by omega, fun _ x hx => by simp [ky] at hx⟩
theorem ShB.other {ls : Nat → Int} {n m q B : Nat} {t : List (Int × Int)} (h : ShB ls n m q B t) (o u : Int) (hq : 0 < q) : ShB ls n m q (B + 1) (insT (o, u) t) :=
  ⟨insT_sorted _ h.1, Nat.le_trans (insT_len _ _) (Nat.succ_le_succ h.2.1), fun j h1 h2 => (ky_ins h.1 _ _ _).2 (.inr (h.2.2.1 j h1 h2)), fun e => by omega⟩
theorem ShB.add {ls : Nat → Int} {n m q B : Nat} {t : List (Int × Int)} (h : ShB ls n (m + 1) q B t) (u : Int) (hm : m < n) : ShB ls n m q (B + 1) (insT (ls m, u) t) := by
  refine ⟨insT_sorted _ h.1, Nat.le_trans (insT_len _ _) (Nat.succ_le_succ h.2.1), fun j h1 h2 => (ky_ins h.1 _ _ _).2 ?_, fun e x hx => ?_⟩
  · by_cases hjm : j = m
    · subst hjm; exact .inl rfl
    · exact .inr (h.2.2.1 j (by omega) h2)
  · rcases (ky_ins h.1 _ _ _).1 hx with rfl | hx
    · exact ⟨m, hm, rfl⟩
    · exact h.2.2.2 e x hx
theorem ShB.up {ls : Nat → Int} {n m q B C : Nat} {t : List (Int × Int)} (h : ShB ls n m q B t) (hC : B ≤ C) : ShB ls n m q C t := ⟨h.1, Nat.le_trans h.2.1 hC, h.2.2⟩
theorem ShB.cut {ls : Nat → Int} {n q B : Nat} {t : List (Int × Int)} (h : ShB ls n 0 q B t) (o : Int) (ho : hasN ls n o = false) : ShB ls n 0 q B (cutT o (o + 1) t) := by
  have hno : ∀ j, j < n → ls j ≠ o := fun j hj e => by rw [hasN_iff.2 ⟨j, hj, e⟩] at ho; cases ho
  refine ⟨List.Pairwise.sublist List.filter_sublist h.1, Nat.le_trans (List.length_filter_le _ _) h.2.1, fun j h1 h2 => (ky_cut _ _ _ _).2 ⟨h.2.2.1 j h1 h2, ?_⟩, fun e x hx => h.2.2.2 e x ((ky_cut _ _ _ _).1 hx).1⟩
  have := hno j h2
  omega
theorem sh_le {ls : Nat → Int} {n q B : Nat} {t k : List (Int × Int)} (ha : ShA ls n t) (hb : ShB ls n 0 q B k) : t.length ≤ k.length := by
  rw [← ky_len t, ← ky_len k]
  refine (up_sub (ky_up hb.1) (ky_up ha.1) fun x hx => ?_).length_le
  obtain ⟨j, hj, rfl⟩ := (ha.2.2 x).1 hx
  exact hb.2.2.1 j (Nat.zero_le _) hj
theorem sh_lt {ls : Nat → Int} {n q B : Nat} {t k : List (Int × Int)} (ha : ShA ls n t) (hb : ShB ls n 0 q B k) (h : t.length < k.length) : 0 < q := by
  apply Nat.pos_of_ne_zero
  intro e
  have : (ky k).length ≤ (ky t).length := by
    refine (up_sub (ky_up ha.1) (ky_up hb.1) fun x hx => ?_).length_le
    exact (ha.2.2 x).2 (hb.2.2.2 e x hx)
  rw [ky_len, ky_len] at this
  omega
theorem sh_eq {ls : Nat → Int} {n q B : Nat} {t k : List (Int × Int)} (ha : ShA ls n t) (hb : ShB ls n 0 q B k) (h : t.length = k.length) (m : Nat) : levelT m t = levelT m k := by
  rw [levelT_ky, levelT_ky]
  have : ky t = ky k := by
    refine (up_sub (ky_up hb.1) (ky_up ha.1) fun x hx => ?_).eq_of_length (by rw [ky_len, ky_len]; exact h)
    obtain ⟨j, hj, rfl⟩ := (ha.2.2 x).1 hx
    exact hb.2.2.1 j (Nat.zero_le _) hj
  rw [this]
theorem level_le (m : Nat) (t : List (Int × Int)) : (levelT m t).length ≤ t.length := by unfold levelT; rw [List.length_map]; exact List.length_filter_le _ _
section
open Go.ChangeShapes Go.WideShapes Go.Deep
theorem open_t30c {H : Type} {enc : TypeId × Value → H} {w : World} {a : Option Addr} {len cap : Nat} {d : DataW H} {p : List MemPlace} (h : DataW.Trod enc Tryd.prog w 0 (fun _ => true) true 30 (.slice a len cap) d p) : IntsIn w a len ∧ len ≤ cap :=
  ⟨open_t30 h, (open_elems (sz := 1) Tryd.underlying30 (by kernel_rfl) h).2.1⟩
end
end Go.Proofs.YtdkojpfhmohaeaaDoor
