/- New, Has, Check, walked. -/
import Derived.Test.YtlalbmgopbcplaaSt
set_option maxRecDepth 16000
set_option linter.unusedVariables false
set_option linter.unusedSimpArgs false
namespace Go.Proofs.Ytlalbmgopbcplaa
open Go.RowKit Go.Maps
variable {C : Nm → Int} {K : List Nm} {w0 w w' : World} {s mb n : Nat} {D : Dm}
def nmOf (x : ByteArray) : Nm := x.data.toList
theorem nm_len (x : ByteArray) : (nmOf x).length = x.size := by unfold nmOf; rw [Array.length_toList]; rfl
theorem make_map (W : World) : (Instr.makeMap 44 none).run Try.prog W = .ok (.map (some W.heap.size)) (W.alloc (.map #[] 0)) := by
  first | exact run_makeMap W _ | kernel_rfl | rfl
theorem cnt_new (w : World) : CntM (w.alloc (.map #[] 0)) w.heap.size 0 (.map []) (fun _ => 0) [] := ⟨World.ownsMap_made _ _ _ _, fun x => rfl, fun x => by simp [Maps.has], rfl⟩
theorem new_any (w0 w : World) (ht : Turn Nope w0 w) : Calls Try.prog 7 #[] w fun e w' => ∃ s mb, e = .returned (.pointer (some ⟨s, 0, none⟩)) ∧ Sh w0 w' s mb 1 (fun _ => 0) [[]] ∧ w.heap.size ≤ s ∧ w.heap.size ≤ mb ∧ Turn Nope w w' := by
  have HT := Lib.hid ht
  clear ht
  have hmp := make_map
  have h0 := cnt_new w
  obtain ⟨w2, hins, hown, hg⟩ := h0.own.update law9 Try.underlying44 (by unfold maxLen; omega) (Go.WideMaps.keyOf_string_mk Try.underlying9 (s := ⟨#[]⟩) (by decide)) (val := .int .i64 0) (plainElem_int Try.underlying3 (by decide))
  have h1 := h0.put hown rfl
  have hC : (fun y => if y = (⟨#[]⟩ : ByteArray).data.toList then (0 : Int) else 0) = fun _ => 0 := by funext y; simp
  have H1 : Hid (∃ D, CntM w2 w.heap.size 1 D (fun _ => 0) [[]]) := by
    rw [hC] at h1
    exact ⟨_, h1⟩
  have HT2 : Hid (Turn Nope w w2) := ((Turn.refl Nope w).alloc _).grown hg fun k hk => .inr (by injection hk with hk; omega)
  clear h0 hown hg h1 hC
  go_enter Try.func7, Try.ntmps7
  go_wp2_with fail
  go_ret
  exact ⟨_, w.heap.size, rfl, ⟨blk_new w2 _, Nat.le_trans HT.out.size HT2.out.size, HT.out.size, (by obtain ⟨D, hD⟩ := H1.out; exact ⟨D, hD.turn ((Turn.refl Nope _).alloc _) fun h => h⟩), book_new, by decide, by decide⟩, HT2.out.size, Nat.le_refl _, HT2.out.alloc _⟩
theorem has_any (h : Sh w0 w s mb n C K) {x : ByteArray} (hx : x.size ≤ maxLen) : Calls Try.prog 16 #[.pointer (some ⟨s, 0, none⟩), .string x] w fun e w' => e = .returned (.tuple #[.int .i64 (C (nmOf x)), .bool (decide (nmOf x ∈ K))]) ∧ Turn Nope w w' := by
  obtain ⟨D, hD⟩ := h.map
  have hT : Maps.has D (.string (nmOf x)) = decide (nmOf x ∈ K) := by
    rw [Bool.eq_iff_iff, hD.has, decide_eq_true_iff]
  have hl := hD.look hx
  have hl2 := (hD.turn (Turn.refl Nope w).drew fun h => h).look hx
  rw [show Maps.has D (.string x.data.toList) = decide (nmOf x ∈ K) from hT] at hl hl2
  have c0 := h.cell
  clear h hD hT
  go_enter Try.func16, Try.ntmps16
  go_wp2_with (go_quiet (fail))
  all_goals
    go_ret2
    exact ⟨rfl, by repeat (first | exact Turn.refl _ _ | apply Turn.drewN | apply Turn.drew)⟩
theorem nm_nil {x : ByteArray} : nmOf x = [] ↔ x.size = 0 := by
  rw [← nm_len, List.length_eq_zero_iff]
theorem tl (x : ByteArray) : x.toList = nmOf x := ByteArray.toList_eq x
theorem nm_inj {x y : ByteArray} (h : nmOf x = nmOf y) : x = y := Go.WideShapes.bytes_inj h
theorem nm_empty {x : ByteArray} (h : nmOf x = []) : x = ⟨#[]⟩ := ByteArray.ext (Array.eq_empty_of_size_eq_zero (nm_nil.1 h))
end Go.Proofs.Ytlalbmgopbcplaa
