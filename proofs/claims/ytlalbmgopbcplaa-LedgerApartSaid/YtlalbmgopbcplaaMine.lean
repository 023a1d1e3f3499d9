/- A Writer's calls, its blocks not named: what they turn is the Writer's own; a block that holds neither bytes nor a Writer stays. -/
import Derived.Test.YtlalbmgopbcplaaPut
namespace Go.Proofs.Ytlalbmgopbcplaa
open Go.RowKit Go.Lib
variable {w w' : World} {base : Nat} {g : Nat} {bs bs' : List Nat}
def WrB (w : World) (base g : Nat) (bs : List Nat) : Prop := ∃ F, WrIs w base F g bs
/-- Blocks that hold neither bytes nor a Writer are as they were. -/
def Kept2 (w w' : World) : Prop := ∀ (q : Nat) (cs : Array Value) (t : TypeId), t ≠ 5 → t ≠ 49 → w.heap[q]? = some (.cells cs t (0, 0)) → w'.heap[q]? = some (.cells cs t (0, 0))
theorem WrB.nope (h : WrB w base g bs) (ht : Turn Nope w w') : WrB w' base g bs := by
  obtain ⟨F, v, h⟩ := h
  exact ⟨F, v, h.turn ht fun k hk => hk.elim⟩
/-- The blocks: the Writer's, and its bytes'. -/
def Least (w : World) (g : Nat) (F : Nat → Prop) : Prop := ∀ k, F k → k = g ∨ ∃ cs, w.heap[k]? = some (.cells cs 5 (0, 0))
theorem WrB.least (h : WrB w base g bs) : ∃ F, WrIs w base F g bs ∧ Least w g F := by
  obtain ⟨F, v, hv⟩ := h
  refine ⟨fun k => k = g ∨ v.ownBlock = some k, ⟨v, ⟨hv.hd, hv.row, .inl rfl, fun k hk => .inr hk, ?_, ?_⟩⟩, ?_⟩
  · rintro k (rfl | hk)
    · exact blk_lt hv.hd
    · exact hv.lt k (hv.fv k hk)
  · rintro k (rfl | hk)
    · exact hv.lo _ hv.fg
    · exact hv.lo k (hv.fv k hk)
  · rintro k (rfl | hk)
    · exact .inl rfl
    · right
      rcases hv.row.2 with ⟨rfl, _⟩ | ⟨g', cap, cur, rfl, _, hh, _⟩
      · simp [Value.ownBlock] at hk
      · have : g' = k := by simpa [Value.ownBlock] using hk
        subst this
        exact ⟨cur, hh⟩
theorem mine {f : Nat} {args : Array Value} {R : Value} (h : WrB w base g bs)
    (H : ∀ F, WrIs w base F g bs → Least w g F → Calls Try.prog f args w fun e w' => e = .returned R ∧ (∃ F' : Nat → Prop, WrIs w' base F' g bs' ∧ ∀ k, F' k → F k ∨ w.heap.size ≤ k) ∧ Turn F w w') :
    Calls Try.prog f args w fun e w' => e = .returned R ∧ WrB w' base g bs' ∧ Below base w w' ∧ Kept2 w w' := by
  obtain ⟨F, hF, hL⟩ := h.least
  refine (H F hF hL).mono ?_
  rintro e w' ⟨rfl, ⟨F', hF', _⟩, ht⟩
  obtain ⟨v, hv⟩ := hF
  have hlt := blk_lt hv.hd
  refine ⟨rfl, ⟨F', hF'⟩, ht.toBelow (by have := hv.lo g hv.fg; omega) hv.lo, fun q cs t h5 h37 hq => ht.blk hq (fun hf => ?_)⟩
  rcases hL q hf with rfl | ⟨cs', hh⟩
  · rw [hv.hd] at hq
    injection hq with hq
    injection hq with _ hq _
    exact h37 hq.symm
  · rw [hh] at hq
    injection hq with hq
    injection hq with _ hq _
    exact h5 hq.symm
theorem num_mine (n : Nat) (hn : n < 18446744073709551616) (w : World) (h : WrB w base g bs) (hl : bs.length ≤ 1000000) :
    Calls Try.prog 18 #[.pointer (some ⟨g, 0, none⟩), .int .u64 (n : Int)] w fun e w' => e = .returned (.pointer (some ⟨g, 0, none⟩)) ∧ WrB w' base g (bs ++ num n) ∧ Below base w w' ∧ Kept2 w w' :=
  mine h fun _ hF _ => num_any n hn w hF hl
theorem str_mine (s : ByteArray) (hs : s.size ≤ 1000000) (w : World) (h : WrB w base g bs) (hl : bs.length ≤ 1000000) :
    Calls Try.prog 19 #[.pointer (some ⟨g, 0, none⟩), .string s] w fun e w' => e = .returned (.pointer (some ⟨g, 0, none⟩)) ∧ WrB w' base g (bs ++ (num s.size ++ nb s)) ∧ Below base w w' ∧ Kept2 w w' :=
  mine h fun _ hF _ => str_any s hs w hF hl
theorem text_mine (s : ByteArray) (w : World) (h : WrB w base g (nb s)) : Calls Try.prog 20 #[.pointer (some ⟨g, 0, none⟩)] w fun e w' => e = .returned (.string s) ∧ w' = w := by
  obtain ⟨F, h⟩ := h
  exact wtext_any s w h
/-- A Writer that was just made. -/
theorem WrB.new (w : World) (base : Nat) (hb : base ≤ w.heap.size) : WrB (w.alloc (.cells #[.slice none 0 0] 49)) base w.heap.size [] := by
  refine ⟨At w.heap.size, _, ⟨blk_new w _, ⟨rfl, .inl ⟨rfl, rfl⟩⟩, rfl, ?_, ?_, ?_⟩⟩
  · intro k hk; simp [Value.ownBlock] at hk
  · intro k hk; have : k = _ := hk; subst this; simp
  · intro k hk; have : k = _ := hk; subst this; exact hb
end Go.Proofs.Ytlalbmgopbcplaa
