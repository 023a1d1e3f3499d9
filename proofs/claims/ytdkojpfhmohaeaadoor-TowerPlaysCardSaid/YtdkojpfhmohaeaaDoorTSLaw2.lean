/- A tower in a law: cut, level, steps. -/
import Derived.Test.YtdkojpfhmohaeaaDoorTSCut
import Derived.Test.YtdkojpfhmohaeaaDoorTSSteps
set_option linter.unusedVariables false
namespace Go.Proofs.YtdkojpfhmohaeaaDoor.TS
open Go.RowKit Go.Proofs.TowerPlain
variable {w w' w0 : World} {F G : Nat → Prop} {l p : Nat} {t t' k : List (Int × ByteArray)}
theorem row_lower {base base' e size n : Nat} {v : Value} {xs : List Value} (h : w.ownsRow base e size v n xs) (hb : base' ≤ base) : w.ownsRow base' e size v n xs := by
  refine ⟨h.1, ?_⟩
  rcases h.2 with hn | ⟨g, cap, cur, hv, hg, rest⟩
  · exact .inl hn
  · exact .inr ⟨g, cap, cur, hv, Nat.le_trans hb hg, rest⟩
theorem one_cut (h : One w0 w l t) (hn : t.length ≤ 1000000) (a b : Int) :
    Calls Tryd.prog 25 #[.pointer (some ⟨l, 0, none⟩), .int .i64 a, .int .i64 b] w fun e w' => e = .returned (.int .i64 ((t.length : Int) - (cutT a b t).length)) ∧ One w0 w' l (cutT a b t) ∧ Kp w w' := by
  obtain ⟨F, h, h1, h2⟩ := h
  refine (tcut h hn a b).mono ?_
  rintro e w' ⟨he, F', hq, hs, ht⟩
  obtain ⟨h3, h4⟩ := step_own h1 h2 hs ht
  exact ⟨he, ⟨F', hq, h3, h4⟩, h.kp ht⟩
theorem one_steps (h : One w0 w l t) (hn : t.length ≤ 1000000) (v : Int) : Calls Tryd.prog 32 #[.pointer (some ⟨l, 0, none⟩), .int .i64 v] w fun e w' => e = .returned (.int .i64 (stepsT v t : Nat)) ∧ w = w' := by
  obtain ⟨F, h, h1, h2⟩ := h
  exact tsteps h hn v
theorem one_level (h : One w0 w l t) (hn : t.length ≤ 1000000) (k : Nat) (hk : k < 10) :
    Calls Tryd.prog 35 #[.pointer (some ⟨l, 0, none⟩), .int .i64 (k : Int)] w fun e w' => ∃ v, e = .returned v ∧ w'.ownsRow w0.heap.size 3 1 v (levelT k t).length (atsV (levelT k t)) ∧ One w0 w' l t ∧ Turn Nope w w' := by
  have h' := h
  obtain ⟨F, h, h1, h2⟩ := h
  refine (tlevel h hn k hk).mono ?_
  rintro e w' ⟨v, he, hr, ht⟩
  exact ⟨v, he, row_lower hr h2.size, h'.nope ht, ht⟩
theorem two_cut (h : Two w0 w l p t k) (hn : t.length ≤ 1000000) (a b : Int) :
    Calls Tryd.prog 25 #[.pointer (some ⟨l, 0, none⟩), .int .i64 a, .int .i64 b] w fun e w' => e = .returned (.int .i64 ((t.length : Int) - (cutT a b t).length)) ∧ Two w0 w' l p (cutT a b t) k := by
  obtain ⟨F, G, h1, h2, h3, h4, h5, h6⟩ := h
  refine (tcut h1 hn a b).mono ?_
  rintro e w' ⟨he, F', hq, hs, ht⟩
  exact ⟨he, two_step h1 h2 h3 h4 h5 h6 hq hs ht⟩
theorem two_level (h : Two w0 w l p t k) (hn : t.length ≤ 1000000) (m : Nat) (hm : m < 10) :
    Calls Tryd.prog 35 #[.pointer (some ⟨l, 0, none⟩), .int .i64 (m : Int)] w fun e w' => ∃ v, e = .returned v ∧ w'.ownsRow w0.heap.size 3 1 v (levelT m t).length (atsV (levelT m t)) ∧ Two w0 w' l p t k ∧ Turn Nope w w' := by
  have h' := h
  obtain ⟨F, G, h1, h2, h3, h4, h5, h6⟩ := h
  refine (tlevel h1 hn m hm).mono ?_
  rintro e w' ⟨v, he, hr, ht⟩
  exact ⟨v, he, row_lower hr h6.size, h'.nope ht, ht⟩
/-! ### What comes in, plain -/
def SortedT (t : List (Int × ByteArray)) : Prop := t.Pairwise fun a b => a.1 < b.1
theorem insT_mem {x y : Int × ByteArray} : ∀ {t : List (Int × ByteArray)}, SortedT t → (y ∈ insT x t ↔ y = x ∨ (y ∈ t ∧ y.1 ≠ x.1))
  | [], _ => by simp [insT]
  | c :: t, hs => by
    have h1 := List.pairwise_cons.1 hs
    have ih := insT_mem (x := x) (y := y) (t := t) h1.2
    show y ∈ (if c.1 < x.1 then c :: insT x t else if c.1 = x.1 then x :: t else x :: c :: t) ↔ _
    by_cases h2 : c.1 < x.1
    · rw [if_pos h2, List.mem_cons, ih, List.mem_cons]
      constructor
      · rintro (rfl | h | ⟨h, h3⟩)
        · exact .inr ⟨.inl rfl, by omega⟩
        · exact .inl h
        · exact .inr ⟨.inr h, h3⟩
      · rintro (h | ⟨h | h, h3⟩)
        · exact .inr (.inl h)
        · exact .inl h
        · exact .inr (.inr ⟨h, h3⟩)
    · rw [if_neg h2]
      have hgt : ∀ z ∈ t, x.1 < z.1 := fun z hz => by have := h1.1 z hz; omega
      by_cases h3 : c.1 = x.1
      · rw [if_pos h3, List.mem_cons, List.mem_cons]
        constructor
        · rintro (h | h)
          · exact .inl h
          · have := hgt y h; exact .inr ⟨.inr h, by omega⟩
        · rintro (h | ⟨rfl | h, h4⟩)
          · exact .inl h
          · exact absurd h3 h4
          · exact .inr h
      · rw [if_neg h3, List.mem_cons, List.mem_cons]
        constructor
        · rintro (h | rfl | h)
          · exact .inl h
          · exact .inr ⟨.inl rfl, h3⟩
          · have := hgt y h; exact .inr ⟨.inr h, by omega⟩
        · rintro (h | ⟨h | h, h4⟩)
          · exact .inl h
          · exact .inr (.inl h)
          · exact .inr (.inr h)
theorem insT_sorted (x : Int × ByteArray) : ∀ {t : List (Int × ByteArray)}, SortedT t → SortedT (insT x t)
  | [], _ => List.pairwise_singleton _ _
  | c :: t, hs => by
    have h1 := List.pairwise_cons.1 hs
    show SortedT (if c.1 < x.1 then c :: insT x t else if c.1 = x.1 then x :: t else x :: c :: t)
    by_cases h2 : c.1 < x.1
    · rw [if_pos h2]
      refine List.pairwise_cons.2 ⟨fun z hz => ?_, insT_sorted x h1.2⟩
      rcases (insT_mem h1.2).1 hz with rfl | ⟨h, _⟩
      · exact h2
      · exact h1.1 z h
    · rw [if_neg h2]
      by_cases h3 : c.1 = x.1
      · rw [if_pos h3]
        exact List.pairwise_cons.2 ⟨fun z hz => by have := h1.1 z hz; omega, h1.2⟩
      · rw [if_neg h3]
        refine List.pairwise_cons.2 ⟨fun z hz => ?_, hs⟩
        rcases List.mem_cons.1 hz with rfl | hz
        · omega
        · have := h1.1 z hz; omega
theorem insT_len (x : Int × ByteArray) : ∀ t : List (Int × ByteArray), (insT x t).length ≤ t.length + 1
  | [] => by simp [insT]
  | c :: t => by
    have ih := insT_len x t
    show (if c.1 < x.1 then c :: insT x t else if c.1 = x.1 then x :: t else x :: c :: t).length ≤ _
    split
    · simp; omega
    · split <;> simp
theorem floorT_some {v : Int} {t : List (Int × ByteArray)} {r : Int × ByteArray} (hs : SortedT t) (h : floorT v t = some r) : r ∈ t ∧ r.1 ≤ v ∧ ∀ y ∈ t, y.1 ≤ v → y.1 ≤ r.1 := by
  unfold floorT at h
  have h1 : r ∈ t.filter fun x => decide (x.1 ≤ v) := List.mem_of_getLast? h
  have h2 := List.mem_filter.1 h1
  refine ⟨h2.1, by simpa using h2.2, fun y hy hyv => ?_⟩
  have h3 : y ∈ t.filter fun x => decide (x.1 ≤ v) := List.mem_filter.2 ⟨hy, by simpa using hyv⟩
  have h4 : SortedT (t.filter fun x => decide (x.1 ≤ v)) := hs.sublist List.filter_sublist
  obtain ⟨ys, h5⟩ := List.getLast?_eq_some_iff.1 h
  rw [h5] at h3 h4
  rcases List.mem_append.1 h3 with h6 | h6
  · have := (List.pairwise_append.1 h4).2.2 y h6 r (by simp)
    omega
  · simp at h6; subst h6; exact Int.le_refl _
theorem floorT_none {v : Int} {t : List (Int × ByteArray)} (h : floorT v t = none) : ∀ y ∈ t, v < y.1 := by
  unfold floorT at h
  rw [List.getLast?_eq_none_iff, List.filter_eq_nil_iff] at h
  intro y hy
  have := h y hy
  simpa using this
end Go.Proofs.YtdkojpfhmohaeaaDoor.TS
