/- The pile of a queue: Len, Less. -/
import Derived.Test.YtdojdhpfhjhmfaaLib
set_option linter.unusedVariables false
namespace Go.Proofs.Ytdojdhpfhjhmfaa
open Go.RowKit
/-- A thing that is due: its tick, whose, its number. -/
structure It where
  tick : Int
  who : Int
  seq : Int
/-- Which goes first. -/
def itLt (a b : It) : Prop := a.tick < b.tick ∨ a.tick = b.tick ∧ a.seq < b.seq
instance : DecidableRel itLt := fun a b => by unfold itLt; exact inferInstance
theorem itLt_asymm (a b : It) : itLt a b → ¬ itLt b a := by unfold itLt; omega
theorem itLt_trans (a b c : It) : ¬ itLt b a → ¬ itLt c b → ¬ itLt c a := by unfold itLt; omega
def itCells (x : It) : List Value := [.int .i64 x.tick, .int .i64 x.who, .int .i64 x.seq]
/-- A pile's slice holds the things L. -/
def PileRow (w : World) (base : Nat) (v : Value) (L : List It) : Prop := w.ownsRow base 84 3 v L.length (L.flatMap itCells)
theorem flat_cells : ∀ (L : List It) (i : Nat) (x : It), L[i]? = some x → (L.flatMap itCells)[i * 3]? = some (.int .i64 x.tick) ∧ (L.flatMap itCells)[i * 3 + 1]? = some (.int .i64 x.who) ∧ (L.flatMap itCells)[i * 3 + 2]? = some (.int .i64 x.seq) := by
  intro L
  induction L with
  | nil => intro i x h; cases h
  | cons y L ih =>
    intro i x h
    cases i with
    | zero => simp at h; subst h; exact ⟨rfl, rfl, rfl⟩
    | succ i =>
      obtain ⟨h1, h2, h3⟩ := ih i x (by simpa using h)
      have e : ∀ k, (List.flatMap itCells (y :: L))[(i + 1) * 3 + k]? = (L.flatMap itCells)[i * 3 + k]? := fun k => by
        rw [List.flatMap_cons, List.getElem?_append_right (by simp [itCells]; omega)]
        congr 1
        simp [itCells]; omega
      exact ⟨(e 0).trans h1, (e 1).trans h2, (e 2).trans h3⟩
variable {w : World} {base : Nat} {v : Value} {L : List It}
/-- Where a pile's things lie. -/
theorem PileRow.cells (h : PileRow w base v L) {i : Nat} {x : It} (hi : L[i]? = some x) : ∃ q c, v = .slice (some ⟨q, 0, none⟩) L.length c ∧ w.cell? ⟨q, i * 3, none⟩ = some (.int .i64 x.tick) ∧ w.cell? ⟨q, i * 3 + 1, none⟩ = some (.int .i64 x.who) ∧ w.cell? ⟨q, i * 3 + 2, none⟩ = some (.int .i64 x.seq) := by
  have hlt : i < L.length := (List.getElem?_eq_some_iff.1 hi).1
  obtain ⟨q, c, hv, _, _⟩ := World.ownsRow.form h (by omega)
  have hh := h
  unfold PileRow at hh
  rw [hv] at hh
  obtain ⟨h1, h2, h3⟩ := flat_cells L i x hi
  exact ⟨q, c, hv, own_elem hh (i * 3) h1, own_elem hh (i * 3 + 1) h2, own_elem hh (i * 3 + 2) h3⟩
set_option maxHeartbeats 4000000 in
theorem less_any (h : PileRow w base v L) {i j : Nat} {x y : It} (hi : L[i]? = some x) (hj : L[j]? = some y) (hn : L.length ≤ 1000000) :
    Calls Try.prog 81 #[v, .int .i64 (i : Int), .int .i64 (j : Int)] w fun e w' => e = .returned (.bool (decide (itLt x y))) ∧ Turn Nope w w' := by
  obtain ⟨q, c, rfl, a0, _, a2⟩ := h.cells hi
  obtain ⟨q2, c2, he, b0, _, b2⟩ := h.cells hj
  injection he with e1 _ _
  injection e1 with e1
  injection e1 with e1 _ _
  subst e1
  have hil : i < L.length := (List.getElem?_eq_some_iff.1 hi).1
  have hjl : j < L.length := (List.getElem?_eq_some_iff.1 hj).1
  have i0 : (0 : Int) ≤ (i : Int) := by omega
  have i1 : (i : Int) < (L.length : Int) := by omega
  have j0 : (0 : Int) ≤ (j : Int) := by omega
  have j1 : (j : Int) < (L.length : Int) := by omega
  clear h hi hj
  by_cases ht : x.tick = y.tick
  · have t1 : (x.tick != y.tick) = false := by simp [ht]
    have HF : Hid (decide (itLt x y) = decide (x.seq < y.seq)) := by show _ = _; unfold itLt; simp [ht]
    go_enter Try.func81, Try.ntmps81
    go_wp2_with (first | (go_quiet (fail)))
    go_ret
    exact ⟨by rw [HF.out]; rfl, by repeat (first | exact Turn.refl _ _ | apply Turn.drewN | apply Turn.drew)⟩
  · have t1 : (x.tick != y.tick) = true := by simpa using ht
    have HF : Hid (decide (itLt x y) = decide (x.tick < y.tick)) := by show _ = _; unfold itLt; simp [ht]
    go_enter Try.func81, Try.ntmps81
    go_wp2_with (first | (go_quiet (fail)))
    go_ret
    exact ⟨by rw [HF.out]; rfl, by repeat (first | exact Turn.refl _ _ | apply Turn.drewN | apply Turn.drew)⟩
end Go.Proofs.Ytdojdhpfhjhmfaa
