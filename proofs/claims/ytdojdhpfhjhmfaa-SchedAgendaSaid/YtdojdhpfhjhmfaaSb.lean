/- A schedule in memory: a queue, the paces, the tick. -/
import Derived.Test.YtdojdhpfhjhmfaaQthing
set_option maxRecDepth 16000
set_option linter.unusedVariables false
namespace Go.Proofs.Ytdojdhpfhjhmfaa
open Go.RowKit
variable {w w' w0 : World} {s q n : Nat} {P : List Int} {t : Int} {l : List Thing} {pv : Value}
def nums (P : List Int) : List Value := P.map fun p => Value.int .i64 p
structure SB (w0 w : World) (s q : Nat) (pv : Value) (P : List Int) (t : Int) (l : List Thing) (n : Nat) : Prop where
  one : One w0 w q l n
  hs : w.heap[s]? = some (.cells #[.pointer (some ⟨q, 0, none⟩), pv, .int .i64 t] 35 (0, 0))
  new : w0.heap.size ≤ s
  row : w.ownsRow w0.heap.size 3 1 pv P.length (nums P)
/-- What a schedule's calls leave: all blocks but those of four types. -/
def bad4 : Obj → Prop
  | .cells _ t _ => t = 71 ∨ t = 68 ∨ t = 84 ∨ t = 35
  | _ => False
structure Ks (w w' : World) : Prop where
  size : w.heap.size ≤ w'.heap.size
  keep : ∀ (g : Nat) (o : Obj), w.heap[g]? = some o → ¬ bad4 o → w'.heap[g]? = some o
theorem bad4.of3 {o : Obj} (h : bad3 o) : bad4 o := by
  cases o <;> first | exact h | (rcases h with h | h | h; exact .inl h; exact .inr (.inl h); exact .inr (.inr (.inl h)))
theorem Ks.cells (h : Ks w w') (g : Nat) (cs : Array Value) (t : TypeId) (hg : w.heap[g]? = some (.cells cs t (0, 0))) (h1 : t ≠ 71) (h2 : t ≠ 68) (h3 : t ≠ 84) (h4 : t ≠ 35) : w'.heap[g]? = some (.cells cs t (0, 0)) :=
  h.keep g _ hg fun e => by rcases e with e | e | e | e; exact h1 e; exact h2 e; exact h3 e; exact h4 e
theorem Ks.row (h : Ks w w') {base e size m : Nat} {v : Value} {xs : List Value} (hr : w.ownsRow base e size v m xs) (h1 : e ≠ 71) (h2 : e ≠ 68) (h3 : e ≠ 84) (h4 : e ≠ 35) : w'.ownsRow base e size v m xs := by
  refine ⟨hr.1, ?_⟩
  rcases hr.2 with hn | ⟨g, cap, cur, hv, hb, hh, rest⟩
  · exact .inl hn
  · exact .inr ⟨g, cap, cur, hv, hb, h.cells g cur e hh h1 h2 h3 h4, rest⟩
theorem Ks.refl (w : World) : Ks w w := ⟨Nat.le_refl _, fun g o h _ => h⟩
theorem Ks.ofKp (h : Kp w w') : Ks w w' := ⟨h.size, fun g o hg hb => h.keep g o hg fun h3 => hb (bad4.of3 h3)⟩
theorem Ks.ofNope (h : Turn Nope w w') : Ks w w' := Ks.ofKp (Kp.ofNope h)
theorem Ks.trans {a b c : World} (h : Ks a b) (k : Ks b c) : Ks a c := ⟨Nat.le_trans h.size k.size, fun g o hg hb => k.keep g o (h.keep g o hg hb) hb⟩
theorem SB.kp {l' : List Thing} {n' : Nat} (h : SB w0 w s q pv P t l n) (h1 : One w0 w' q l' n') (hk : Kp w w') : SB w0 w' s q pv P t l' n' :=
  ⟨h1, hk.cells _ _ _ h.hs (by decide) (by decide) (by decide), h.new, hk.row h.row (by decide) (by decide) (by decide)⟩
theorem SB.nope (h : SB w0 w s q pv P t l n) (ht : Turn Nope w w') : SB w0 w' s q pv P t l n := h.kp (h.one.nope ht) (Kp.ofNope ht)
theorem SB.turn (h : SB w0 w s q pv P t l n) : Turn Nope w0 w := h.one.turn
/-- The tick turns. -/
theorem SB.tick (h : SB w0 w s q pv P t l n) (u : Int) : SB w0 (w.setCell ⟨s, 2, none⟩ (.int .i64 u)) s q pv P u l n ∧ Ks w (w.setCell ⟨s, 2, none⟩ (.int .i64 u)) := by
  have ht : Turn (At s) w (w.setCell ⟨s, 2, none⟩ (.int .i64 u)) := (Turn.refl _ _).set_at _
  have hq := h.one
  obtain ⟨F, hq, h1, h2⟩ := hq
  have hs := hq.other h.hs (by decide) (by decide) (by decide)
  refine ⟨⟨⟨F, hq.keep ht (fun k hk e => hs (e ▸ hk)), h1, h2.set_new h.new _⟩, blk_set h.hs 2 _, h.new, own_turn h.row ht (own_ne h.row h.hs (by decide))⟩, ht.size, fun g o hg hb => ?_⟩
  refine ht.blk hg fun e => ?_
  have e : g = s := e
  subst e
  rw [h.hs] at hg
  injection hg with hg
  subst hg
  exact hb (.inr (.inr (.inr rfl)))
end Go.Proofs.Ytdojdhpfhjhmfaa
