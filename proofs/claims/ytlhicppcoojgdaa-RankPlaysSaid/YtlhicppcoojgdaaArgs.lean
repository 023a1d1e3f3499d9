/- Slices that come in to a law on queues, as the walk reads them; awake is true. -/
import Derived.Test.YtlhicppcoojgdaaOpen
import Derived.Test.YtlhicppcoojgdaaQthing
set_option linter.unusedVariables false
namespace Go.Proofs.Ytlhicppcoojgdaa
open Go.RowKit Go.ChangeShapes Go.WideShapes Go.Deep
/-- A slice holds the numbers ts. -/
def IntsAt (w : World) (a : Option Addr) (len : Nat) (ts : Nat → Int) : Prop := len ≤ maxLen ∧ ∀ i, i < len → ∃ ad : Addr, a = some ad ∧ w.cell? (ad.add i) = some (.int .i64 (ts i))
def IntsIn (w : World) (a : Option Addr) (len : Nat) : Prop := ∃ ts, IntsAt w a len ts
theorem IntsAt.later {w w' : World} {a : Option Addr} {len : Nat} {ts : Nat → Int} (h : IntsAt w a len ts) (hb : Below w.heap.size w w') : IntsAt w' a len ts :=
  ⟨h.1, fun i hi => by obtain ⟨ad, e, c0⟩ := h.2 i hi; exact ⟨ad, e, cell_later hb c0⟩⟩
def ActsIn (w : World) (a : Option Addr) (len : Nat) : Prop := len ≤ maxLen ∧ ∀ i, i < len → ∃ (ad : Addr) (k t who : Int), a = some ad ∧
  w.cell? (ad.add (i * 3)) = some (.int .i64 k) ∧ w.cell? ⟨(ad.add (i * 3)).block, (ad.add (i * 3)).off + 1, none⟩ = some (.int .i64 t) ∧ w.cell? ⟨(ad.add (i * 3)).block, (ad.add (i * 3)).off + 2, none⟩ = some (.int .i64 who)
section
variable {H : Type} {enc : TypeId × Value → H} {w : World} {a : Option Addr} {len cap : Nat} {d : DataW H} {p : List MemPlace}
theorem open_t22 (h : DataW.Trod enc Try.prog w 0 (fun _ => true) true 22 (.slice a len cap) d p) : IntsIn w a len := by
  obtain ⟨hm, _, he⟩ := open_elems (sz := 1) Try.underlying22 (by kernel_rfl) h
  have key : ∀ i, i < len → ∃ (x : Int) (ad : Addr), a = some ad ∧ w.cell? (ad.add i) = some (.int .i64 x) := by
    intro i hi
    obtain ⟨ad, cs, n, y, ha, hl, hc, ht⟩ := he i hi
    match cs, hl with
    | [c0], _ =>
      obtain ⟨x, rfl, hx⟩ := leaf_int (xs := [y]) (i := 0) Try.underlying3 ht (by simp)
      have := hc 0 (by omega)
      rw [Nat.mul_one, Nat.add_zero] at this
      exact ⟨x, ad, ha, this⟩
  refine ⟨fun i => if h : i < len then (key i h).choose else 0, hm, fun i hi => ?_⟩
  show ∃ ad, a = some ad ∧ w.cell? (ad.add i) = some (.int .i64 (if h : i < len then (key i h).choose else 0))
  rw [dif_pos hi]
  exact (key i hi).choose_spec
theorem open_t33 (h : DataW.Trod enc Try.prog w 0 (fun _ => true) true 33 (.slice a len cap) d p) : ActsIn w a len := by
  obtain ⟨hm, _, he⟩ := open_elems (sz := 3) Try.underlying33 (by kernel_rfl) h
  refine ⟨hm, fun i hi => ?_⟩
  obtain ⟨ad, cs, n, y, ha, hl, hc, ht⟩ := he i hi
  obtain ⟨xs, n', _, _, _, hxl, hf⟩ := DataW.trod_struct Try.underlying36 ht
  have hxl4 : xs.length = 3 := hxl
  match cs, hl with
  | [c0, c1, c2], _ =>
    have h3 : Try.prog.cellsOf 3 = 1 := by kernel_rfl
    have f0 : DataW.trod enc Try.prog w 0 (fun _ => true) true n' 3 [c0] = xs[0]? := (show ((([c0, c1, c2] : List Value).drop 0).take (Try.prog.cellsOf 3)) = [c0] by rw [h3]; rfl) ▸ hf 0 _ rfl
    have f1 : DataW.trod enc Try.prog w 0 (fun _ => true) true n' 3 [c1] = xs[1]? := (show ((([c0, c1, c2] : List Value).drop 1).take (Try.prog.cellsOf 3)) = [c1] by rw [h3]; rfl) ▸ hf 1 _ rfl
    have f2 : DataW.trod enc Try.prog w 0 (fun _ => true) true n' 3 [c2] = xs[2]? := (show ((([c0, c1, c2] : List Value).drop 2).take (Try.prog.cellsOf 3)) = [c2] by rw [h3]; rfl) ▸ hf 2 _ rfl
    obtain ⟨k, rfl, hk⟩ := leaf_int Try.underlying3 f0 (by omega)
    obtain ⟨t, rfl, hk⟩ := leaf_int Try.underlying3 f1 (by omega)
    obtain ⟨who, rfl, hk⟩ := leaf_int Try.underlying3 f2 (by omega)
    exact ⟨ad, k, t, who, ha, hc 0 (by omega), by rw [← add_off _ _ 1 (by omega)]; exact hc 1 (by omega), by rw [← add_off _ _ 2 (by omega)]; exact hc 2 (by omega)⟩
end
theorem row_ints {w : World} {base n : Nat} {v : Value} {l : List Thing} (h : w.ownsRow base 3 1 v n (whoT l)) (hn : n = l.length) : ∃ A c, v = .slice A n c ∧ ∀ j x, l[j]? = some x → ∃ g, A = some ⟨g, 0, none⟩ ∧ w.cell? ⟨g, j, none⟩ = some (.int .i64 x.2) := by
  obtain ⟨A, c, e, hc⟩ := own_slice h
  refine ⟨A, c, e, fun j x hj => ?_⟩
  have hlt : j < l.length := (List.getElem?_eq_some_iff.1 hj).1
  obtain ⟨g, c', e', _⟩ := World.ownsRow.form h (by omega)
  rw [e'] at e h
  injection e with e1 _ _
  exact ⟨g, e1.symm, own_elem h j (by simp [whoT, hj])⟩
set_option maxHeartbeats 4000000 in
theorem awake_any (w : World) : Calls Try.prog 8 #[] w fun e w' => e = .returned (.bool true) ∧ Turn Nope w w' := by
  go_enter Try.func8, Try.ntmps8
  go_wp2_with fail
  refine (one_new w _ (Turn.refl _ _)).mono ?_
  rintro e w1 ⟨q, rfl, h1, ht⟩
  have H1 := Lib.hid h1
  clear h1 ht
  go_wp2_with fail
  refine (one_add H1.out (by decide) (by decide) 5 1).mono ?_
  rintro e w2 ⟨rfl, h2, ht⟩
  have H2 := Lib.hid h2
  clear h2 ht
  go_wp2_with fail
  refine (one_add H2.out (by decide) (by decide) 3 2).mono ?_
  rintro e w3 ⟨rfl, h3, ht⟩
  have H3 := Lib.hid h3
  clear h3 ht
  go_wp2_with fail
  refine (one_add H3.out (by decide) (by decide) 5 3).mono ?_
  rintro e w4 ⟨rfl, h4, ht⟩
  have H4 : Hid (One w w4 q [(3, 2), (5, 1), (5, 3)] 3) := h4
  clear h4 ht H1 H2 H3
  go_wp2_with fail
  refine (one_due H4.out (by decide) 5).mono ?_
  rintro e w5 ⟨v, rfl, hv, h5, ht⟩
  obtain ⟨A, c, rfl, hc⟩ := row_ints (l := [(3, 2), (5, 1), (5, 3)]) hv rfl
  obtain ⟨g, rfl, c0⟩ := hc 0 _ rfl
  obtain ⟨g1, e1, c1⟩ := hc 1 _ rfl
  obtain ⟨g2, e2, c2⟩ := hc 2 _ rfl
  injection e1 with e1
  injection e1 with e1
  injection e2 with e2
  injection e2 with e2
  subst e1; subst e2
  have H5 : Hid (One w w5 q [] 3) := h5
  clear h5 ht hc hv
  rw [show (dueOf 5 [((3, 2) : Thing), (5, 1), (5, 3)]).length = 3 from rfl]
  go_wp2_with (go_at_call 12; refine (one_len H5.out).mono ?_; rintro e w6 ⟨rfl, rfl⟩)
  go_ret
  exact ⟨rfl, H5.out.turn⟩
end Go.Proofs.Ytlhicppcoojgdaa
