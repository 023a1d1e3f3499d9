/- How many nodes a search looks at, plain. -/
import Derived.Test.YtdkojpfhmohaeaaDoorTplain
namespace Go.Proofs.TowerPlain
/-- What stands behind the last one that is higher than k. -/
def afterH (k : Nat) : List Nat → List Nat
  | [] => []
  | c :: s => if s.any (fun x => decide (k < x)) then afterH k s else if k < c then s else c :: s
def stepsH : Nat → List Nat → Nat
  | 0, _ => 0
  | k + 1, S => (S.filter fun x => decide (k < x)).length + stepsH k (afterH k S)
theorem any_low {k : Nat} {S : List Nat} (h : ∀ x ∈ S, x ≤ k) : S.any (fun x => decide (k < x)) = false := by
  rw [List.any_eq_false]
  intro x hx
  have := h x hx
  simp; omega
theorem afterH_low {k : Nat} : ∀ {S : List Nat}, (∀ x ∈ S, x ≤ k) → afterH k S = S
  | [], _ => rfl
  | c :: s, h => by
    unfold afterH
    rw [any_low fun x hx => h x (List.mem_cons_of_mem _ hx), if_neg (by decide), if_neg (by have := h c List.mem_cons_self; omega)]
theorem afterH_self {k y : Nat} (hy : k < y) (q : List Nat) : afterH k (y :: q) = afterH k q := by
  show (if q.any (fun x => decide (k < x)) then afterH k q else if k < y then q else y :: q) = _
  by_cases hq : q.any (fun x => decide (k < x)) = true
  · rw [if_pos hq]
  · rw [if_neg hq, if_pos hy]
    refine (afterH_low fun x hx => ?_).symm
    have := List.any_eq_false.1 (Bool.eq_false_iff.2 hq) x hx
    simp at this
    omega
theorem afterH_high {k y : Nat} (hy : k < y) (q : List Nat) : ∀ p : List Nat, afterH k (p ++ y :: q) = afterH k q
  | [] => afterH_self hy q
  | c :: p => by
    have ih := afterH_high hy q p
    show (if (p ++ y :: q).any (fun x => decide (k < x)) then afterH k (p ++ y :: q) else _) = _
    rw [if_pos (by rw [List.any_append]; simp [hy]), ih]
theorem filter_low {k : Nat} {S : List Nat} (h : ∀ x ∈ S, x ≤ k) : (S.filter fun x => decide (k < x)) = [] := by
  rw [List.filter_eq_nil_iff]
  intro x hx
  have := h x hx
  simp; omega
theorem filter_high {k y : Nat} (hy : k < y) {p : List Nat} (q : List Nat) (h : ∀ x ∈ p, x ≤ k) : ((p ++ y :: q).filter fun x => decide (k < x)).length = 1 + (q.filter fun x => decide (k < x)).length := by
  rw [List.filter_append, filter_low h, List.nil_append, List.filter_cons_of_pos (by simpa using hy), List.length_cons]
  omega
/-- One looks at no more than there are. -/
theorem afterH_le (k : Nat) : ∀ S : List Nat, (S.filter fun x => decide (k < x)).length + (afterH k S).length ≤ S.length
  | [] => by simp [afterH]
  | c :: s => by
    have ih := afterH_le k s
    unfold afterH
    by_cases hs : s.any (fun x => decide (k < x)) = true
    · rw [if_pos hs]
      have : ((c :: s).filter fun x => decide (k < x)).length ≤ 1 + (s.filter fun x => decide (k < x)).length := by
        rw [List.filter_cons]; split <;> simp <;> omega
      simp only [List.length_cons]; omega
    · rw [if_neg hs]
      have hf : (s.filter fun x => decide (k < x)) = [] := filter_low fun x hx => by
        have := List.any_eq_false.1 (Bool.eq_false_iff.2 hs) x hx
        simp at this
        omega
      by_cases hc : k < c
      · rw [if_pos hc, List.filter_cons_of_pos (by simpa using hc), hf]; simp; omega
      · rw [if_neg hc, List.filter_cons_of_neg (by simpa using hc), hf]; simp
theorem stepsH_le : ∀ (k : Nat) (S : List Nat), stepsH k S ≤ S.length
  | 0, S => Nat.zero_le _
  | k + 1, S => by
    have h1 := afterH_le k S
    have h2 := stepsH_le k (afterH k S)
    show (S.filter fun x => decide (k < x)).length + stepsH k (afterH k S) ≤ _
    omega
end Go.Proofs.TowerPlain
