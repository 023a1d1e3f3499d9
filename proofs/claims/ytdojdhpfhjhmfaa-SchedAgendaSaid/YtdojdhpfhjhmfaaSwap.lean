import Derived.Test.YtdojdhpfhjhmfaaPile
set_option linter.unusedVariables false
namespace Go.Proofs.Ytdojdhpfhjhmfaa
open Go.RowKit
variable {w : World} {base : Nat} {v : Value} {L : List It}
/-- The world behind three stores. -/
def set3 (w : World) (q o : Nat) (x : It) : World := ((w.setCell ⟨q, o, none⟩ (.int .i64 x.tick)).setCell ⟨q, o + 1, none⟩ (.int .i64 x.who)).setCell ⟨q, o + 2, none⟩ (.int .i64 x.seq)
theorem cs {w : World} {p q : Addr} {x : Value} (h : ∃ v, w.cell? q = some v) : ∃ v', (w.setCell p x).cell? q = some v' := h.elim fun _ h => cell?_setCell_some h
set_option maxHeartbeats 4000000 in
theorem swap_world (h : PileRow w base v L) {i j : Nat} {x y : It} (hi : L[i]? = some x) (hj : L[j]? = some y) (hn : L.length ≤ 1000000) :
    Calls Try.prog 82 #[v, .int .i64 (i : Int), .int .i64 (j : Int)] w fun e w' => e = .returned (.tuple #[]) ∧ ∃ q c n, v = .slice (some ⟨q, 0, none⟩) L.length c ∧ w' = (set3 (set3 w q (i * 3) y) q (j * 3) x).drewN n := by
  obtain ⟨q, c, rfl, a0, a1, a2⟩ := h.cells hi
  obtain ⟨q2, c2, he, b0, b1, b2⟩ := h.cells hj
  injection he with e1 _ _
  injection e1 with e1
  injection e1 with e1 _ _
  subst e1
  have hil : i < L.length := (List.getElem?_eq_some_iff.1 hi).1
  have hjl : j < L.length := (List.getElem?_eq_some_iff.1 hj).1
  have i0 : (0 : Int) ≤ (i : Int) := by omega
  have i1 : (i : Int) < (L.length : Int) := by omega
  have j0 : (0 : Int) ≤ (j : Int) := by omega
  have j1 : (j : Int) < (L.length : Int) := by omega
  have fz : ∀ k, w.frozen? ⟨q, k, none⟩ = false := World.ownsRow.frozenAt h
  have fz0 := fz (i * 3)
  have fz1 := fz (i * 3 + 1)
  have fz2 := fz (i * 3 + 2)
  have fz3 := fz (j * 3)
  have fz4 := fz (j * 3 + 1)
  have fz5 := fz (j * 3 + 2)
  obtain ⟨u1, hu1⟩ : ∃ u, ((w).setCell ⟨q, i * 3, none⟩ (.int .i64 y.tick)).cell? ⟨q, i * 3 + 1, none⟩ = some u := cs (⟨_, a1⟩)
  obtain ⟨u2, hu2⟩ : ∃ u, (((w).setCell ⟨q, i * 3, none⟩ (.int .i64 y.tick)).setCell ⟨q, i * 3 + 1, none⟩ (.int .i64 y.who)).cell? ⟨q, i * 3 + 2, none⟩ = some u := cs (cs (⟨_, a2⟩))
  obtain ⟨u3, hu3⟩ : ∃ u, ((((w).setCell ⟨q, i * 3, none⟩ (.int .i64 y.tick)).setCell ⟨q, i * 3 + 1, none⟩ (.int .i64 y.who)).setCell ⟨q, i * 3 + 2, none⟩ (.int .i64 y.seq)).cell? ⟨q, j * 3, none⟩ = some u := cs (cs (cs (⟨_, b0⟩)))
  obtain ⟨u4, hu4⟩ : ∃ u, (((((w).setCell ⟨q, i * 3, none⟩ (.int .i64 y.tick)).setCell ⟨q, i * 3 + 1, none⟩ (.int .i64 y.who)).setCell ⟨q, i * 3 + 2, none⟩ (.int .i64 y.seq)).setCell ⟨q, j * 3, none⟩ (.int .i64 x.tick)).cell? ⟨q, j * 3 + 1, none⟩ = some u := cs (cs (cs (cs (⟨_, b1⟩))))
  obtain ⟨u5, hu5⟩ : ∃ u, ((((((w).setCell ⟨q, i * 3, none⟩ (.int .i64 y.tick)).setCell ⟨q, i * 3 + 1, none⟩ (.int .i64 y.who)).setCell ⟨q, i * 3 + 2, none⟩ (.int .i64 y.seq)).setCell ⟨q, j * 3, none⟩ (.int .i64 x.tick)).setCell ⟨q, j * 3 + 1, none⟩ (.int .i64 x.who)).cell? ⟨q, j * 3 + 2, none⟩ = some u := cs (cs (cs (cs (cs (⟨_, b2⟩)))))
  clear fz h
  clear hi hj
  go_enter Try.func82, Try.ntmps82
  go_region
  all_goals go_end0
  all_goals exact ⟨rfl, q, c, 1, rfl, rfl⟩

theorem itCells_set : ∀ (L : List It) (i : Nat) (x : It), i < L.length → (L.set i x).flatMap itCells = (((L.flatMap itCells).set (i * 3) (.int .i64 x.tick)).set (i * 3 + 1) (.int .i64 x.who)).set (i * 3 + 2) (.int .i64 x.seq)
  | [], i, x, h => absurd h (Nat.not_lt_zero _)
  | y :: L, 0, x, _ => rfl
  | y :: L, i + 1, x, h => by
    have e : (i + 1) * 3 = i * 3 + 3 := by omega
    rw [List.set_cons_succ, List.flatMap_cons, itCells_set L i x (by simpa using h), List.flatMap_cons, e]
    rfl
theorem PileRow.set3 {q c : Nat} (h : PileRow w base (.slice (some ⟨q, 0, none⟩) L.length c) L) {i : Nat} (hi : i < L.length) (x : It) (n : Nat) : PileRow ((set3 w q (i * 3) x).drewN n) base (.slice (some ⟨q, 0, none⟩) L.length c) (L.set i x) := by
  unfold PileRow at h ⊢
  rw [List.length_set, itCells_set L i x hi]
  have h1 := (((h.stored (i * 3) (.int .i64 x.tick)).1.stored (i * 3 + 1) (.int .i64 x.who)).1.stored (i * 3 + 2) (.int .i64 x.seq)).1
  exact own_turn h1 (S := Nope) ((Turn.refl _ _).drewN n) fun _ _ h => h
/-- The row's block. -/
def OfRow (v : Value) : Nat → Prop := fun k => v.ownBlock = some k
theorem set3_turn (w : World) (q o : Nat) (x : It) {a : World} {S : Nat → Prop} (h : Turn S a w) (hq : S q) : Turn S a (Ytdojdhpfhjhmfaa.set3 w q o x) :=
  ((h.setCell (p := ⟨q, o, none⟩) (.inl hq) _).setCell (p := ⟨q, o + 1, none⟩) (.inl hq) _).setCell (p := ⟨q, o + 2, none⟩) (.inl hq) _
theorem swap_any (h : PileRow w base v L) {i j : Nat} {x y : It} (hi : L[i]? = some x) (hj : L[j]? = some y) (hn : L.length ≤ 1000000) :
    Calls Try.prog 82 #[v, .int .i64 (i : Int), .int .i64 (j : Int)] w fun e w' => e = .returned (.tuple #[]) ∧ PileRow w' base v ((L.set i y).set j x) ∧ Turn (OfRow v) w w' := by
  refine (swap_world h hi hj hn).mono ?_
  rintro e w' ⟨he, q, c, n, rfl, rfl⟩
  have hil : i < L.length := (List.getElem?_eq_some_iff.1 hi).1
  have hjl : j < L.length := (List.getElem?_eq_some_iff.1 hj).1
  refine ⟨he, ?_, ?_⟩
  · have h1 := h.set3 hil y 0
    have e1 : L.length = (L.set i y).length := by simp
    rw [e1] at h1 ⊢
    exact h1.set3 (by simpa using hjl) x n
  · have hq : OfRow (.slice (some ⟨q, 0, none⟩) L.length c) q := rfl
    exact (set3_turn _ _ _ _ (set3_turn _ _ _ _ (Turn.refl _ _) hq) hq).drewN n
end Go.Proofs.Ytdojdhpfhjhmfaa
