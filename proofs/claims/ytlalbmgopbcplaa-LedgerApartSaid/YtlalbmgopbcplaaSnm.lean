/- The accounts' names, rising: the library's keys and sort at this dump; the walk of Names. -/
import Derived.Test.YtlalbmgopbcplaaShelf
import Derived.Test.YtlalbmgopbcplaaSt
import Derived.Shelf.AbstractIn
set_option maxRecDepth 16000
set_option linter.unusedVariables false
set_option linter.unusedSimpArgs false
namespace Go.Proofs.Ytlalbmgopbcplaa
open Go.RowKit Go.Maps Go.Sort Go.Shelf
theorem it_sorts23 (m : Nat) : AnyZ.SortsIn Try.prog Try.sorted23_ren Fence.wide m :=
  ⟨fun blk off cap ss W hH hblk hsz => callsIn_wide.2 (AnyM.slices_Sort_string Try.sort32 blk off cap ss W hH hblk hsz),
   fun p cap W => callsIn_wide.2 (AnyM.slices_Sort_string_none Try.sort32 p cap W)⟩

theorem it_maps_Keys_24 (mb : Option Nat) (W : World) : CallsIn Fence.wide 5 Try.prog 24 #[.map mb] W fun e w' => e = .returned (.func (.func 33) #[] #[.pointer (some ⟨W.heap.size, 0, none⟩)]) ∧ w' = W.alloc (.cells #[.map mb] 44) :=
  AnyZ.keys_in Try.keys24 Fence.wide 5 trivial rfl mb W

set_option maxHeartbeats 1000000 in
theorem it_slices_Sorted_keys_23_24 {H : Type} (b nn : Nat) (D0 : DataW H) (R : Value → Option (DataW H × List MemPlace)) (w : World) (hown : w.ownsMap Try.prog 9 R b nn D0) (hmax : Maps.size D0 ≤ maxLen) (hbytes : Maps.size D0 * 16 ≤ 140737488355328) :
    CallsIn Fence.wide 5 Try.prog 23 #[.func (.func 33) #[] #[.pointer (some ⟨w.heap.size, 0, none⟩)]] (w.alloc (.cells #[.map (some b)] 44)) fun e w' => ∃ (v : Value) (ss : List (List UInt8)), e = .returned v ∧ ss.Perm (strKeys D0) ∧
      w'.ownsRow (w.alloc (.cells #[.map (some b)] 44)).heap.size 9 1 v ss.length ((ss.mergeSort (fun x y => decide (x ≤ y))).map encStr) ∧ (v = .slice none 0 0 ↔ ss = []) ∧ Below (w.alloc (.cells #[.map (some b)] 44)).heap.size (w.alloc (.cells #[.map (some b)] 44)) w' := by
  have hbl := hown.lt
  have hseq : SeqGives Fence.wide 2 Try.prog 33 #[.pointer (some ⟨w.heap.size, 0, none⟩)] encStr (fun ss => ss.Perm (strKeys D0)) (Maps.size D0) (w.alloc (.cells #[.map (some b)] 44)) :=
    AnyZ.keys_gives (ρ := Try.keys24_ren) { Try.keys24 with } Fence.wide _ trivial rfl (by omega) w.heap.size b nn D0 _ (by simp) (by simp) (by
      obtain ⟨es, clock, hb, Ft, hs, hD⟩ := hown
      exact ⟨es, clock, (Below.heap_alloc _ _ b hbl).trans hb, Ft, hs, hD⟩)
  exact AnyZ.sorted_in Try.sorted23 Fence.wide 5 trivial trivial trivial trivial rfl (by omega) (it_sorts23 _) (enters_of Try.func32 (by kernel_rfl) rfl) 33 #[.pointer (some ⟨w.heap.size, 0, none⟩)] trivial (enters_of Try.func33 (by kernel_rfl) rfl) _ _ hmax hbytes _ hseq

set_option maxHeartbeats 1000000 in
theorem it_slices_Sorted_keys_nil_23_24 (w : World) :
    CallsIn Fence.wide 5 Try.prog 23 #[.func (.func 33) #[] #[.pointer (some ⟨w.heap.size, 0, none⟩)]] (w.alloc (.cells #[.map none] 44)) fun e w' => ∃ (v : Value) (ss : List (List UInt8)), e = .returned v ∧ ss = [] ∧
      w'.ownsRow (w.alloc (.cells #[.map none] 44)).heap.size 9 1 v ss.length ((ss.mergeSort (fun x y => decide (x ≤ y))).map encStr) ∧ (v = .slice none 0 0 ↔ ss = []) ∧ Below (w.alloc (.cells #[.map none] 44)).heap.size (w.alloc (.cells #[.map none] 44)) w' := by
  have hseq : SeqGives Fence.wide 2 Try.prog 33 #[.pointer (some ⟨w.heap.size, 0, none⟩)] encStr (fun ss : List (List UInt8) => ss = []) 0 (w.alloc (.cells #[.map none] 44)) :=
    AnyZ.keys_gives_nil (ρ := Try.keys24_ren) { Try.keys24 with } Fence.wide _ trivial rfl w.heap.size _ (by simp) (by simp)
  exact AnyZ.sorted_in Try.sorted23 Fence.wide 5 trivial trivial trivial trivial rfl (by omega) (it_sorts23 _) (enters_of Try.func32 (by kernel_rfl) rfl) 33 #[.pointer (some ⟨w.heap.size, 0, none⟩)] trivial (enters_of Try.func33 (by kernel_rfl) rfl) _ 0 (Nat.zero_le _) (by omega) _ hseq


/-- The names, rising. -/
def srt (K : List Nm) : List Nm := K.mergeSort leB
/-- .. but the house. -/
def accs (K : List Nm) : List Nm := (srt K).tail
def encs (L : List Nm) : List Value := L.map encStr
variable {C : Nm → Int} {K : List Nm} {w0 w w' : World} {s mb n : Nat} {D : Dm}
theorem srt_length (K : List Nm) : (srt K).length = K.length := List.length_mergeSort K
theorem srt_mem (K : List Nm) (x : Nm) : x ∈ srt K ↔ x ∈ K := (List.mergeSort_perm K _).mem_iff
theorem srt_perm {K L : List Nm} (h : K.Perm L) : srt K = srt L := mergeSort_of_perm h
theorem accs_perm {K L : List Nm} (h : K.Perm L) : accs K = accs L := by unfold accs; rw [srt_perm h]
theorem srt_house (h : [] ∈ K) : srt K = [] :: accs K := by
  have tr : ∀ a b c : Nm, leB a b = true → leB b c = true → leB a c = true := fun a b c h1 h2 => by simp only [leB, decide_eq_true_eq] at *; exact List.le_trans h1 h2
  have tot : ∀ a b : Nm, (leB a b || leB b a) = true := fun a b => by simp only [leB, Bool.or_eq_true, decide_eq_true_eq]; exact List.le_total a b
  have h1 : (srt K).Pairwise (fun a b => leB a b = true) := List.pairwise_mergeSort tr tot K
  have h2 := (srt_mem K []).2 h
  unfold accs
  cases hs : srt K with
  | nil => rw [hs] at h2; cases h2
  | cons x l =>
    rw [hs] at h1 h2
    have hx : x = [] := by
      rcases List.mem_cons.1 h2 with e | e
      · exact e.symm
      · have := (List.pairwise_cons.1 h1).1 [] e
        simp only [leB, decide_eq_true_eq] at this
        exact List.le_nil.1 this
    rw [hx]; rfl
theorem accs_length (h : [] ∈ K) : (accs K).length + 1 = K.length := by
  have := congrArg List.length (srt_house h)
  rw [srt_length, List.length_cons] at this
  omega
theorem accs_mem (hn : K.Nodup) (h : [] ∈ K) (x : Nm) : x ∈ accs K ↔ x ∈ K ∧ x ≠ [] := by
  have h1 := srt_house h
  have h2 : (srt K).Nodup := (List.mergeSort_perm K _).nodup_iff.2 hn
  rw [h1] at h2
  have h3 := (List.nodup_cons.1 h2).1
  rw [← srt_mem K x, h1, List.mem_cons]
  constructor
  · intro hx
    exact ⟨.inr hx, fun e => h3 (by rw [← e]; exact hx)⟩
  · rintro ⟨hx | hx, hne⟩
    · exact absurd hx hne
    · exact hx
/-- The names in memory: a row of one's own, but its first. -/
def NamV (w w' : World) (K : List Nm) (v : Value) : Prop := ∃ A c g cap, v = .slice A (accs K).length c ∧ (accs K).length ≤ c ∧ (0 < (accs K).length → A = some ⟨g, 1, none⟩) ∧ w'.ownsRow w.heap.size 9 1 (.slice (some ⟨g, 0, none⟩) ((accs K).length + 1) cap) ((accs K).length + 1) (encs ([] :: accs K))
set_option maxHeartbeats 4000000 in
theorem names_any (h : Sh w0 w s mb n C K) :
    Calls Try.prog 12 #[.pointer (some ⟨s, 0, none⟩)] w fun e w' => ∃ v, e = .returned v ∧ NamV w w' K v ∧ Turn Nope w w' := by
  obtain ⟨D, hD⟩ := h.map
  have c0 := h.cell
  have hown := hD.own
  have hkeys := hD.keys h.good.nd
  have hle : Maps.size D ≤ 17 := by rw [hD.len]; exact h.good.le
  have HK := Lib.hid hkeys
  have HH := Lib.hid h.good.house
  have hmax : Maps.size D ≤ maxLen := by unfold maxLen; omega
  have hbytes : Maps.size D * 16 ≤ 140737488355328 := by omega
  have cS := it_slices_Sorted_keys_23_24 mb n D _ w hown hmax hbytes
  have HCS := Lib.hid cS
  clear h hD hkeys hown hmax hbytes hle cS
  refine (callsIn_wide (n := 6)).1 ?_
  have hfK : Fence.wide.fn 24 := trivial
  have hfS : Fence.wide.fn 23 := trivial
  refine callsIn_of_wp Try.func12 rfl trivial ?_ rfl
  simp only [Try.ntmps12, List.size_toArray, List.length_cons, List.length_nil, Nat.reduceAdd, Nat.reduceSub, Array.replicate_succ, Array.replicate_zero, List.push_toArray, List.append_toArray, List.nil_append, List.cons_append]
  gi_wp2_with (first
    | (gi_at_call 24; refine (it_maps_Keys_24 _ _).mono ?_; rintro e w' ⟨rfl, rfl⟩)
    | (gi_at_call 23; refine HCS.out.mono ?_; rintro e w' ⟨v, ss, rfl, hS, hrow, hnil, hb⟩; have hrow2 := Lib.hid (And.intro hS (And.intro hrow hb)); obtain ⟨g, cap, ev, hcap, hcm⟩ : ∃ g cap, v = .slice (some ⟨g, 0, none⟩) ss.length cap ∧ ss.length ≤ cap ∧ cap ≤ maxLen := (by rcases hrow.2 with ⟨_, h0⟩ | ⟨g, cap, cur, hv, _, _, h1, h2, _⟩; (exfalso; have h1 := (hS.trans HK.out.symm).length_eq; have h2 := List.length_pos_of_mem HH.out; omega); exact ⟨g, cap, hv, h1, h2⟩); subst ev; have hl0 : 1 ≤ ss.length := (by have h1 := (hS.trans HK.out.symm).length_eq; have h2 := List.length_pos_of_mem HH.out; omega); have p1 : (1 : Int) ≤ (ss.length : Int) := (by omega); have p2 : (ss.length : Int) ≤ (cap : Int) := (by omega); clear hS hrow hb hnil))
  all_goals
    go_ret
    obtain ⟨hS, hrow, hb⟩ := hrow2.out
    have e : ss.mergeSort (fun x y => decide (x ≤ y)) = [] :: accs K := (mergeSort_of_perm (hS.trans HK.out.symm)).trans (srt_house HH.out)
    have el : ss.length = (accs K).length + 1 := by have := congrArg List.length e; rw [List.length_mergeSort] at this; simpa using this
    rw [e, el] at hrow
    have ea : (accs K).length = ss.length - 1 := by omega
    first
      | exact ⟨.slice (some ⟨g, 1, none⟩) (accs K).length (cap - 1), by rw [ea]; rfl, ⟨some ⟨g, 1, none⟩, cap - 1, g, cap, rfl, by omega, fun _ => rfl, ownsRow_base_a hrow (by simp)⟩, ((Turn.refl _ _).alloc _).below hb⟩
      | exact ⟨.slice (some ⟨g, 0, none⟩) (accs K).length 0, by rw [ea]; rfl, ⟨some ⟨g, 0, none⟩, 0, g, cap, rfl, by omega, fun hp => by exfalso; omega, ownsRow_base_a hrow (by simp)⟩, ((Turn.refl _ _).alloc _).below hb⟩
end Go.Proofs.Ytlalbmgopbcplaa
