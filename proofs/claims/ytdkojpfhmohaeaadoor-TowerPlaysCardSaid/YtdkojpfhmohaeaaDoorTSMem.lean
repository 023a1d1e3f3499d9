/- A tower in memory: its nodes and rows. -/
import Derived.Test.YtdkojpfhmohaeaaDoorTplain
import Derived.Test.YtdkojpfhmohaeaaDoorHgt
import Derived.Deep.DeepCutAuto
set_option linter.unusedVariables false
namespace Go.Proofs.YtdkojpfhmohaeaaDoor.TS
open Go.RowKit Go.Proofs.TowerPlain
abbrev N := Nd ByteArray
def ptrV : Option Nat → Value
  | none => .pointer none
  | some b => .pointer (some ⟨b, 0, none⟩)
def rowOf (f : Nat → Nat → Option Nat) (b H : Nat) : Array Value := ((List.range H).map fun h => ptrV (f b h)).toArray
theorem rowOf_at (f : Nat → Nat → Option Nat) (b : Nat) {H h : Nat} (hh : h < H) : (rowOf f b H)[h]? = some (ptrV (f b h)) := by simp [rowOf, hh]
theorem rowOf_size (f : Nat → Nat → Option Nat) (b H : Nat) : (rowOf f b H).size = H := by simp [rowOf]
theorem rowOf_set (f : Nat → Nat → Option Nat) (b H h : Nat) (u : Option Nat) : (rowOf f b H).setIfInBounds h (ptrV u) = rowOf (upd f b h u) b H := by
  apply Array.ext_getElem?
  intro i
  rw [Array.getElem?_setIfInBounds]
  by_cases hi : i < H
  · rw [rowOf_at _ _ hi, rowOf_at _ _ hi, rowOf_size]
    unfold upd
    by_cases h1 : h = i
    · subst h1; simp [hi]
    · rw [if_neg h1, if_neg (fun e => h1 e.2.symm)]
  · rw [Array.getElem?_eq_none (by rw [rowOf_size]; omega), Array.getElem?_eq_none (by rw [rowOf_size]; omega)]
    split
    · rw [if_neg (by rw [rowOf_size]; omega)]
    · rfl
theorem rowOf_other (f : Nat → Nat → Option Nat) {b b' : Nat} (h : b ≠ b') (H k : Nat) (u : Option Nat) : rowOf (upd f b' k u) b H = rowOf f b H := by
  unfold rowOf upd
  congr 1
  apply List.map_congr_left
  intro i _
  rw [if_neg (fun e => h e.1)]
/-- A node and its row. -/
structure NodeAt (w : World) (f : Nat → Nat → Option Nat) (x : N) : Prop where
  nd : w.heap[x.b]? = some (.cells #[.int .i64 x.vs, .string x.v, .slice (some ⟨x.r, 0, none⟩) x.h x.h] 71 (0, 0))
  row : w.heap[x.r]? = some (.cells (rowOf f x.b x.h) 68 (0, 0))
def Rs (L : List N) : List Nat := L.map (·.r)
structure MemOf (w : World) (L : List N) (f : Nat → Nat → Option Nat) : Prop where
  at_ : ∀ x ∈ L, NodeAt w f x
  nb : (Bs L).Nodup
  nr : (Rs L).Nodup
variable {w w' w0 : World} {F G : Nat → Prop} {L : List N} {f : Nat → Nat → Option Nat} {x y : N}
theorem NodeAt.keep (h : NodeAt w f x) {S : Nat → Prop} (ht : Turn S w w') (h1 : ¬ S x.b) (h2 : ¬ S x.r) : NodeAt w' f x := ⟨ht.blk h.nd h1, ht.blk h.row h2⟩
theorem NodeAt.lt (h : NodeAt w f x) : x.b < w.heap.size ∧ x.r < w.heap.size := ⟨blk_lt h.nd, blk_lt h.row⟩
theorem NodeAt.ne (h : NodeAt w f x) (k : NodeAt w f y) : x.b ≠ y.r := by
  intro e
  have h1 := h.nd
  rw [e, k.row] at h1
  injection h1 with h1
  injection h1 with _ h1
  exact absurd h1 (by decide)
def Foot (L : List N) (k : Nat) : Prop := ∃ x ∈ L, k = x.b ∨ k = x.r
theorem MemOf.keep (h : MemOf w L f) {S : Nat → Prop} (ht : Turn S w w') (hs : ∀ k, Foot L k → ¬ S k) : MemOf w' L f :=
  ⟨fun x hx => (h.at_ x hx).keep ht (hs _ ⟨x, hx, .inl rfl⟩) (hs _ ⟨x, hx, .inr rfl⟩), h.nb, h.nr⟩
theorem inj_b (hn : (Bs L).Nodup) (hx : x ∈ L) (hy : y ∈ L) (e : x.b = y.b) : x = y := by
  obtain ⟨p1, s1, h1⟩ := List.append_of_mem hx
  obtain ⟨p2, s2, h2⟩ := List.append_of_mem hy
  exact (nodup_split hn h1 h2 e).2.1
theorem inj_r : ∀ {L : List N}, (Rs L).Nodup → x ∈ L → y ∈ L → x.r = y.r → x = y
  | [], _, hx, _, _ => by cases hx
  | z :: L, hn, hx, hy, e => by
    simp only [Rs, List.map_cons, List.nodup_cons] at hn
    rcases List.mem_cons.1 hx with h1 | h1
    · rcases List.mem_cons.1 hy with h2 | h2
      · exact h1.trans h2.symm
      · exact absurd (List.mem_map.2 ⟨y, h2, by rw [← e, h1]⟩) hn.1
    · rcases List.mem_cons.1 hy with h2 | h2
      · exact absurd (List.mem_map.2 ⟨x, h1, by rw [e, h2]⟩) hn.1
      · exact inj_r (L := L) hn.2 h1 h2 e
/-- One place of a row is written. -/
theorem MemOf.set_row (h : MemOf w L f) (hx : x ∈ L) {k : Nat} (u : Option Nat) : MemOf (w.setCell ⟨x.r, k, none⟩ (ptrV u)) L (upd f x.b k u) := by
  have ht : Turn (At x.r) w (w.setCell ⟨x.r, k, none⟩ (ptrV u)) := (Turn.refl _ _).set_at _
  refine ⟨fun y hy => ⟨ht.blk (h.at_ y hy).nd (fun e => (h.at_ y hy).ne (h.at_ x hx) e), ?_⟩, h.nb, h.nr⟩
  by_cases e : y.r = x.r
  · obtain rfl := inj_r h.nr hy hx e
    have := blk_set (h.at_ y hy).row k (ptrV u)
    rw [rowOf_set] at this
    exact this
  · have e2 : y.b ≠ x.b := fun e3 => e (by rw [inj_b h.nb hy hx e3])
    rw [rowOf_other _ e2]
    exact ht.blk (h.at_ y hy).row e
/-- What is kept of one is written. -/
theorem MemOf.set_val {A B : List N} (h : MemOf w (A ++ x :: B) f) (u : ByteArray) : MemOf (w.setCell ⟨x.b, 1, none⟩ (.string u)) (A ++ { x with v := u } :: B) f := by
  have hx : x ∈ A ++ x :: B := by simp
  have ht : Turn (At x.b) w (w.setCell ⟨x.b, 1, none⟩ (.string u)) := (Turn.refl _ _).set_at _
  refine ⟨fun y hy => ?_, by simpa [Bs] using h.nb, by simpa [Rs] using h.nr⟩
  have key : ∀ y ∈ A ++ x :: B, y ≠ x → NodeAt (w.setCell ⟨x.b, 1, none⟩ (.string u)) f y := fun y hy hne =>
    (h.at_ y hy).keep ht (fun e => hne (inj_b h.nb hy hx e)) (fun e => (h.at_ x hx).ne (h.at_ y hy) e.symm)
  rcases List.mem_append.1 hy with h1 | h1
  · refine key y (List.mem_append_left _ h1) fun e => ?_
    subst e
    have := h.nb
    simp only [Bs, List.map_append, List.map_cons] at this
    exact (List.nodup_append.1 this).2.2 y.b (List.mem_map_of_mem h1) y.b List.mem_cons_self rfl
  · rcases List.mem_cons.1 h1 with rfl | h2
    · refine ⟨?_, ht.blk (h.at_ x hx).row (fun e => (h.at_ x hx).ne (h.at_ x hx) e.symm)⟩
      exact blk_set (h.at_ x hx).nd 1 _
    · refine key y (List.mem_append_right _ (List.mem_cons_of_mem _ h2)) fun e => ?_
      subst e
      have := h.nb
      simp only [Bs, List.map_append, List.map_cons] at this
      exact (List.nodup_cons.1 (List.nodup_append.1 this).2.1).1 (List.mem_map_of_mem h2)
/-- A tower: the list's own block l, its head, its nodes; F: all their blocks. -/
structure TwAt (w : World) (F : Nat → Prop) (l : Nat) (hd : N) (ns : List N) (f : Nat → Nat → Option Nat) : Prop where
  hl : w.heap[l]? = some (.cells #[.pointer (some ⟨hd.b, 0, none⟩), .int .i64 (ns.length : Int)] 73 (0, 0))
  mem : MemOf w (hd :: ns) f
  links : Links f (hd :: ns)
  hh : hd.h = 10
  hs : ∀ x ∈ ns, x.h = hgt x.vs
  sorted : ns.Pairwise fun a b => a.vs < b.vs
  foot : ∀ k, F k ↔ k = l ∨ Foot (hd :: ns) k
  fl : ¬ Foot (hd :: ns) l
end Go.Proofs.YtdkojpfhmohaeaaDoor.TS
