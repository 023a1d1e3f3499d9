/- A schedule of paces: the walk of New. -/
import Derived.Test.YtdojdhpfhjhmfaaSnext
set_option maxRecDepth 16000
set_option linter.unusedVariables false
namespace Go.Proofs.Ytdojdhpfhjhmfaa
open Go.RowKit
variable {w w' w0 : World} {s q n : Nat} {P : List Int} {t : Int} {l : List Thing} {pv : Value}
attribute [local go_sem] lib_max2 lib_min2 lib_max_two lib_min_two
theorem Try.info3 : (Try.prog.info? 3).map (fun i => (i.zero, i.size, i.bytes)) = some (some (.int .i64 0), 1, 8) := by kernel_rfl
/-- A pace as it counts. -/
def paceOf (p : Int) : Int := if 1048576 < (if p < 0 then 0 else p) then 1048576 else (if p < 0 then 0 else p)
theorem paceOf_in (p : Int) : 0 ≤ paceOf p ∧ paceOf p ≤ 1048576 := by unfold paceOf; split <;> split <;> omega
/-- Numbers that stand in memory and stay. -/
def NumsAt (w : World) (A : Option Addr) (ps : List Int) : Prop := ∀ (j : Nat) (x : Int), ps[j]? = some x → ∃ ad : Addr, A = some ad ∧ w.cell? (ad.add j) = some (.int .i64 x)
theorem NumsAt.later {A : Option Addr} {ps : List Int} (h : NumsAt w A ps) (ht : Turn Nope w w') : NumsAt w' A ps := fun j x hj => by
  obtain ⟨ad, e, c⟩ := h j x hj
  exact ⟨ad, e, cell_later ht.nopeBelow c⟩
def newT (P : List Int) : Nat × List Thing × Nat := P.foldl (fun a p => (a.1 + 1, dueL 0 p a.1 a.2.1, dueN p a.2.2)) (0, [], 0)
theorem newT_add (P : List Int) (p : Int) : newT (P ++ [p]) = ((newT P).1 + 1, dueL 0 p (newT P).1 (newT P).2.1, dueN p (newT P).2.2) := by
  unfold newT
  rw [List.foldl_append]; rfl
theorem dueL_len (t p : Int) (who : Nat) (l : List Thing) : (dueL t p who l).length ≤ l.length + 1 := by
  unfold dueL
  split
  · rw [insR_length]; exact Nat.le_refl _
  · omega
theorem dueN_le (p : Int) (n : Nat) : dueN p n ≤ n + 1 := by unfold dueN; split <;> omega
theorem newT_len : ∀ (P : List Int), (newT P).1 = P.length ∧ (newT P).2.1.length ≤ P.length ∧ (newT P).2.2 ≤ P.length := by
  have key : ∀ (k : Nat) (P : List Int), P.length = k → (newT P).1 = P.length ∧ (newT P).2.1.length ≤ P.length ∧ (newT P).2.2 ≤ P.length := by
    intro k
    induction k with
    | zero =>
      intro P hP
      have : P = [] := List.length_eq_zero_iff.1 hP
      subst this
      exact ⟨rfl, Nat.le_refl _, Nat.le_refl _⟩
    | succ k ih =>
      intro P hP
      rcases List.eq_nil_or_concat P with rfl | ⟨L, b, rfl⟩
      · cases hP
      · have hL : L.length = k := by simpa using hP
        have := ih L hL
        rw [List.concat_eq_append, newT_add]
        have h1 := dueL_len 0 b (newT L).1 (newT L).2.1
        have h2 := dueN_le b (newT L).2.2
        simp only [List.length_append, List.length_singleton]
        omega
  exact fun P => key P.length P rfl
end Go.Proofs.Ytdojdhpfhjhmfaa
