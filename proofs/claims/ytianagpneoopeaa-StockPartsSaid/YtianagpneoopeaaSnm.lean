/- The goods' names, rising: the library's keys and sort at this dump; the walk of Names. -/
import Derived.Test.YtianagpneoopeaaShelf
import Derived.Test.YtianagpneoopeaaSt
import Derived.Shelf.AbstractIn
set_option maxRecDepth 16000
set_option linter.unusedVariables false
set_option linter.unusedSimpArgs false
namespace Go.Proofs.Ytianagpneoopeaa
open Go.RowKit Go.Maps Go.Sort Go.Shelf
theorem it_sorts18 (m : Nat) : AnyZ.SortsIn Try.prog Try.sorted18_ren Fence.wide m :=
  ⟨fun blk off cap ss W hH hblk hsz => callsIn_wide.2 (AnyM.slices_Sort_string Try.sort30 blk off cap ss W hH hblk hsz),
   fun p cap W => callsIn_wide.2 (AnyM.slices_Sort_string_none Try.sort30 p cap W)⟩

theorem it_maps_Keys_19 (mb : Option Nat) (W : World) : CallsIn Fence.wide 5 Try.prog 19 #[.map mb] W fun e w' => e = .returned (.func (.func 31) #[] #[.pointer (some ⟨W.heap.size, 0, none⟩)]) ∧ w' = W.alloc (.cells #[.map mb] 43) :=
  AnyZ.keys_in Try.keys19 Fence.wide 5 trivial rfl mb W

set_option maxHeartbeats 1000000 in
theorem it_slices_Sorted_keys_18_19 {H : Type} (b nn : Nat) (D0 : DataW H) (R : Value → Option (DataW H × List MemPlace)) (w : World) (hown : w.ownsMap Try.prog 9 R b nn D0) (hmax : Maps.size D0 ≤ maxLen) (hbytes : Maps.size D0 * 16 ≤ 140737488355328) :
    CallsIn Fence.wide 5 Try.prog 18 #[.func (.func 31) #[] #[.pointer (some ⟨w.heap.size, 0, none⟩)]] (w.alloc (.cells #[.map (some b)] 43)) fun e w' => ∃ (v : Value) (ss : List (List UInt8)), e = .returned v ∧ ss.Perm (strKeys D0) ∧
      w'.ownsRow (w.alloc (.cells #[.map (some b)] 43)).heap.size 9 1 v ss.length ((ss.mergeSort (fun x y => decide (x ≤ y))).map encStr) ∧ (v = .slice none 0 0 ↔ ss = []) ∧ Below (w.alloc (.cells #[.map (some b)] 43)).heap.size (w.alloc (.cells #[.map (some b)] 43)) w' := by
  have hbl := hown.lt
  have hseq : SeqGives Fence.wide 2 Try.prog 31 #[.pointer (some ⟨w.heap.size, 0, none⟩)] encStr (fun ss => ss.Perm (strKeys D0)) (Maps.size D0) (w.alloc (.cells #[.map (some b)] 43)) :=
    AnyZ.keys_gives (ρ := Try.keys19_ren) { Try.keys19 with } Fence.wide _ trivial rfl (by omega) w.heap.size b nn D0 _ (by simp) (by simp) (by
      obtain ⟨es, clock, hb, Ft, hs, hD⟩ := hown
      exact ⟨es, clock, (Below.heap_alloc _ _ b hbl).trans hb, Ft, hs, hD⟩)
  exact AnyZ.sorted_in Try.sorted18 Fence.wide 5 trivial trivial trivial trivial rfl (by omega) (it_sorts18 _) (enters_of Try.func30 (by kernel_rfl) rfl) 31 #[.pointer (some ⟨w.heap.size, 0, none⟩)] trivial (enters_of Try.func31 (by kernel_rfl) rfl) _ _ hmax hbytes _ hseq

set_option maxHeartbeats 1000000 in
theorem it_slices_Sorted_keys_nil_18_19 (w : World) :
    CallsIn Fence.wide 5 Try.prog 18 #[.func (.func 31) #[] #[.pointer (some ⟨w.heap.size, 0, none⟩)]] (w.alloc (.cells #[.map none] 43)) fun e w' => ∃ (v : Value) (ss : List (List UInt8)), e = .returned v ∧ ss = [] ∧
      w'.ownsRow (w.alloc (.cells #[.map none] 43)).heap.size 9 1 v ss.length ((ss.mergeSort (fun x y => decide (x ≤ y))).map encStr) ∧ (v = .slice none 0 0 ↔ ss = []) ∧ Below (w.alloc (.cells #[.map none] 43)).heap.size (w.alloc (.cells #[.map none] 43)) w' := by
  have hseq : SeqGives Fence.wide 2 Try.prog 31 #[.pointer (some ⟨w.heap.size, 0, none⟩)] encStr (fun ss : List (List UInt8) => ss = []) 0 (w.alloc (.cells #[.map none] 43)) :=
    AnyZ.keys_gives_nil (ρ := Try.keys19_ren) { Try.keys19 with } Fence.wide _ trivial rfl w.heap.size _ (by simp) (by simp)
  exact AnyZ.sorted_in Try.sorted18 Fence.wide 5 trivial trivial trivial trivial rfl (by omega) (it_sorts18 _) (enters_of Try.func30 (by kernel_rfl) rfl) 31 #[.pointer (some ⟨w.heap.size, 0, none⟩)] trivial (enters_of Try.func31 (by kernel_rfl) rfl) _ 0 (Nat.zero_le _) (by omega) _ hseq


/-- The names, rising. -/
def srt (K : List Nm) : List Nm := K.mergeSort leB
def encs (L : List Nm) : List Value := L.map encStr
variable {C : Nm → Int} {K : List Nm} {w0 w w' : World} {s mb n : Nat} {D : Dm}
theorem srt_length (K : List Nm) : (srt K).length = K.length := List.length_mergeSort K
theorem srt_mem (K : List Nm) (x : Nm) : x ∈ srt K ↔ x ∈ K := (List.mergeSort_perm K _).mem_iff
theorem srt_perm {K L : List Nm} (h : K.Perm L) : srt K = srt L := mergeSort_of_perm h
set_option maxHeartbeats 4000000 in
theorem names_any (h : Sh w0 w s mb n C K) :
    Calls Try.prog 9 #[.pointer (some ⟨s, 0, none⟩)] w fun e w' => ∃ v, e = .returned v ∧ w'.ownsRow w.heap.size 9 1 v (srt K).length (encs (srt K)) ∧ Turn Nope w w' := by
  obtain ⟨D, hD⟩ := h.map
  have c0 := h.cell
  have hown := hD.own
  have hkeys := hD.keys h.good.nd
  have hle : Maps.size D ≤ 16 := by rw [hD.len]; exact h.good.le
  have HK := Lib.hid hkeys
  have hmax : Maps.size D ≤ maxLen := by unfold maxLen; omega
  have hbytes : Maps.size D * 16 ≤ 140737488355328 := by omega
  have cS := it_slices_Sorted_keys_18_19 mb n D _ w hown hmax hbytes
  have HCS := Lib.hid cS
  clear h hD hkeys hown hmax hbytes hle cS
  refine (callsIn_wide (n := 6)).1 ?_
  have hfK : Fence.wide.fn 19 := trivial
  have hfS : Fence.wide.fn 18 := trivial
  refine callsIn_of_wp Try.func9 rfl trivial ?_ rfl
  simp only [Try.ntmps9, List.size_toArray, List.length_cons, List.length_nil, Nat.reduceAdd, Nat.reduceSub, Array.replicate_succ, Array.replicate_zero, List.push_toArray, List.append_toArray, List.nil_append, List.cons_append]
  gi_wp2_with (first
    | (gi_at_call 19; refine (it_maps_Keys_19 _ _).mono ?_; rintro e w' ⟨rfl, rfl⟩)
    | (gi_at_call 18; refine HCS.out.mono ?_; rintro e w' ⟨v, ss, rfl, hS, hrow, hnil, hb⟩))
  go_ret
  have e : ss.mergeSort (fun x y => decide (x ≤ y)) = srt K := mergeSort_of_perm (hS.trans HK.out.symm)
  have el : ss.length = (srt K).length := by rw [← e, List.length_mergeSort]
  rw [e, el] at hrow
  exact ⟨v, rfl, ownsRow_base_a hrow (by simp), ((Turn.refl _ _).alloc _).below hb⟩
end Go.Proofs.Ytianagpneoopeaa
