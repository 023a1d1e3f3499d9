/- A shelf of goods: the plain laws, and the shelf in memory. The goods' names, rising: the library's keys and sort at this dump; the walk of Names. Check, New, Count and Do, walked. Do, walked. Save, walked: the goods' bytes. Cut, Few, Inverse; the ops that come in to a law on shelves; what an inverse does. Load, walked: what was saved is there again. -/
import Derived.Test.YteggenihjhclkaaLib
import Derived.Deep.RegionLaw
import Derived.Deep.RegionHeld3
import Derived.Maps.RangeWalk
import Derived.Maps.OwnSet
import Derived.Sort.KeysCollected
import Derived.StringKeys
import Derived.Test.YteggenihjhclkaaShelf
import Derived.Shelf.AbstractIn
import Derived.Deep.CutBlock
import Derived.Test.YteggenihjhclkaaWire
import Derived.Test.YteggenihjhclkaaOpen
import Derived.Test.YteggenihjhclkaaTk
import Derived.WideKeyEntry
set_option maxRecDepth 16000
set_option linter.unusedVariables false
set_option linter.unusedSimpArgs false
namespace Go.Proofs.Yteggenihjhclkaa.Sk
open Go.RowKit Go.Maps
abbrev Nm := List UInt8
/-- An op. -/
structure Op3 where
  k : Int
  nm : Nm
  N : Int
/-- May an op be? -/
def chk (o : Op3) : Int := if o.k ≠ 1 ∧ o.k ≠ 2 then 5 else if o.nm = [] ∨ 12 < o.nm.length ∨ o.N < 1 ∨ 1099511627776 < o.N then 4 else 0
/-- What an op answers, where each good is there so many times, and the goods are K. -/
def doE (C : Nm → Int) (K : List Nm) (o : Op3) : Int :=
  if chk o ≠ 0 then chk o else if o.k = 2 then (if C o.nm = 0 then 8 else if C o.nm < o.N then 11 else 0) else if C o.nm = 0 ∧ 16 ≤ K.length then 7 else if 1099511627776 < C o.nm + o.N then 10 else 0
def newC (C : Nm → Int) (o : Op3) : Nm → Int := fun y => if y = o.nm then (if o.k = 2 then C o.nm - o.N else C o.nm + o.N) else C y
def newK (C : Nm → Int) (K : List Nm) (o : Op3) : List Nm := if o.k = 2 then (if C o.nm = o.N then K.erase o.nm else K) else if C o.nm = 0 then o.nm :: K else K
def doC (C : Nm → Int) (K : List Nm) (o : Op3) : Nm → Int := if doE C K o = 0 then newC C o else C
def doK (C : Nm → Int) (K : List Nm) (o : Op3) : List Nm := if doE C K o = 0 then newK C K o else K
/-- The goods of a shelf. -/
structure Good (C : Nm → Int) (K : List Nm) : Prop where
  nd : K.Nodup
  mem : ∀ x, x ∈ K ↔ C x ≠ 0
  lo : ∀ x, 0 ≤ C x
  hi : ∀ x, C x ≤ 1099511627776
  nm : ∀ x ∈ K, x ≠ [] ∧ x.length ≤ 12
  le : K.length ≤ 16
variable {C : Nm → Int} {K : List Nm} {o : Op3}
theorem good_new : Good (fun _ => 0) [] := ⟨List.nodup_nil, fun x => by simp, fun x => Int.le_refl _, fun x => by simp, fun x hx => (by cases hx), by simp⟩
theorem doE_ok (h : doE C K o = 0) : (o.k = 1 ∨ o.k = 2) ∧ o.nm ≠ [] ∧ o.nm.length ≤ 12 ∧ 1 ≤ o.N ∧ o.N ≤ 1099511627776 ∧ (o.k = 2 → C o.nm ≠ 0 ∧ o.N ≤ C o.nm) ∧ (o.k = 1 → (C o.nm = 0 → K.length < 16) ∧ C o.nm + o.N ≤ 1099511627776) := by
  unfold doE at h
  have hc : chk o = 0 := by
    by_cases hc : chk o = 0
    · exact hc
    · rw [if_pos hc] at h; exact absurd h hc
  rw [if_neg (by simp [hc])] at h
  have hk : o.k = 1 ∨ o.k = 2 := by
    unfold chk at hc
    by_cases h1 : o.k ≠ 1 ∧ o.k ≠ 2
    · rw [if_pos h1] at hc; cases hc
    · omega
  have ha : ¬ (o.nm = [] ∨ 12 < o.nm.length ∨ o.N < 1 ∨ 1099511627776 < o.N) := by
    intro ha
    unfold chk at hc
    rw [if_neg (by omega), if_pos ha] at hc; cases hc
  refine ⟨hk, fun e => ha (.inl e), by omega, by omega, by omega, fun h2 => ?_, fun h1 => ?_⟩
  · rw [if_pos h2] at h
    by_cases h0 : C o.nm = 0
    · rw [if_pos h0] at h; cases h
    · rw [if_neg h0] at h
      by_cases h3 : C o.nm < o.N
      · rw [if_pos h3] at h; cases h
      · exact ⟨h0, by omega⟩
  · rw [if_neg (by omega)] at h
    by_cases h0 : C o.nm = 0 ∧ 16 ≤ K.length
    · rw [if_pos h0] at h; cases h
    · rw [if_neg h0] at h
      by_cases h3 : 1099511627776 < C o.nm + o.N
      · rw [if_pos h3] at h; cases h
      · exact ⟨fun e => by omega, by omega⟩
theorem newC_at : newC C o o.nm = if o.k = 2 then C o.nm - o.N else C o.nm + o.N := by unfold newC; rw [if_pos rfl]
theorem newC_far {y : Nm} (h : y ≠ o.nm) : newC C o y = C y := by unfold newC; rw [if_neg h]
theorem Good.put (h : Good C K) (hd : doE C K o = 0) : Good (newC C o) (newK C K o) := by
  obtain ⟨hk, h1, h2, h3, h4, ht, ha⟩ := doE_ok hd
  have hlo := h.lo o.nm
  have hhi := h.hi o.nm
  have hmemK : ∀ y, y ≠ o.nm → (y ∈ newK C K o ↔ y ∈ K) := fun y hy => by
    unfold newK
    split
    · split
      · rw [List.mem_erase_of_ne hy]
      · exact Iff.rfl
    · split
      · rw [List.mem_cons]; simp [hy]
      · exact Iff.rfl
  have hself : o.nm ∈ newK C K o ↔ newC C o o.nm ≠ 0 := by
    rw [newC_at]
    unfold newK
    by_cases hk2 : o.k = 2
    · have ht := ht hk2
      rw [if_pos hk2, if_pos hk2]
      by_cases he : C o.nm = o.N
      · rw [if_pos he]
        exact ⟨fun hx => absurd hx (h.nd.not_mem_erase), fun hx => absurd (by omega) hx⟩
      · rw [if_neg he]
        exact ⟨fun _ => by omega, fun _ => (h.mem _).2 ht.1⟩
    · have ha := ha (by omega)
      rw [if_neg hk2, if_neg hk2]
      by_cases he : C o.nm = 0
      · rw [if_pos he]
        exact ⟨fun _ => by omega, fun _ => List.mem_cons_self⟩
      · rw [if_neg he]
        exact ⟨fun _ => by omega, fun _ => (h.mem _).2 he⟩
  refine ⟨?_, fun y => ?_, fun y => ?_, fun y => ?_, fun y hy => ?_, ?_⟩
  · unfold newK
    split
    · split
      · exact h.nd.erase _
      · exact h.nd
    · split
      · rename_i he
        exact List.nodup_cons.2 ⟨fun hx => (h.mem _).1 hx he, h.nd⟩
      · exact h.nd
  · by_cases hy : y = o.nm
    · rw [hy]; exact hself
    · rw [hmemK y hy, newC_far hy]; exact h.mem y
  · by_cases hy : y = o.nm
    · rw [hy, newC_at]
      by_cases hk2 : o.k = 2
      · have := ht hk2; rw [if_pos hk2]; omega
      · rw [if_neg hk2]; omega
    · rw [newC_far hy]; exact h.lo y
  · by_cases hy : y = o.nm
    · rw [hy, newC_at]
      by_cases hk2 : o.k = 2
      · have := ht hk2; rw [if_pos hk2]; omega
      · have := ha (by omega); rw [if_neg hk2]; omega
    · rw [newC_far hy]; exact h.hi y
  · by_cases hyx : y = o.nm
    · rw [hyx]; exact ⟨h1, h2⟩
    · exact h.nm y ((hmemK y hyx).1 hy)
  · unfold newK
    split
    · split
      · exact Nat.le_trans List.length_erase_le h.le
      · exact h.le
    · split
      · rename_i hk2 he
        have := (ha (by omega)).1 he
        simp only [List.length_cons]; omega
      · exact h.le
theorem Good.did (h : Good C K) : Good (doC C K o) (doK C K o) := by
  unfold doC doK
  by_cases hd : doE C K o = 0
  · rw [if_pos hd, if_pos hd]; exact h.put hd
  · rw [if_neg hd, if_neg hd]; exact h
/-! ### in memory -/
theorem law9 : Keyed Try.prog 9 := string_keyed Try.underlying9
theorem zero3 (w : World) : (zeroValue 3).run Try.prog w = .ok (.int .i64 0) w := Try.zeroValue3 w
abbrev Dm := DataW Unit
/-- The map: what it reads as. -/
structure CntM (w : World) (mb n : Nat) (D : Dm) (C : Nm → Int) (K : List Nm) : Prop where
  own : w.ownsMap Try.prog 9 (plainElem (H := Unit) Try.prog 3) mb n D
  val : ∀ x, D.atKey (.string x) (.lit (.int .i64 0)) = .lit (.int .i64 (C x))
  has : ∀ x, Maps.has D (.string x) = true ↔ x ∈ K
  len : Maps.size D = K.length
structure Sh (w0 w : World) (s mb n : Nat) (C : Nm → Int) (K : List Nm) : Prop where
  hs : w.heap[s]? = some (.cells #[.map (some mb)] 94 (0, 0))
  los : w0.heap.size ≤ s
  lom : w0.heap.size ≤ mb
  map : ∃ D, CntM w mb n D C K
  good : Good C K
variable {w0 w w' : World} {s mb n : Nat} {D : Dm}
theorem CntM.turn {S : Nat → Prop} (h : CntM w mb n D C K) (ht : Turn S w w') (hS : ¬ S mb) : CntM w' mb n D C K := by
  refine ⟨?_, h.val, h.has, h.len⟩
  obtain ⟨es, clock, hb, F, hs, hD⟩ := h.own
  exact ⟨es, clock, ht.blk hb hS, F, hs, hD⟩
theorem CntM.blk (h : CntM w mb n D C K) : ∃ es clock, w.heap[mb]? = some (.map es clock) := by
  obtain ⟨es, clock, hb, _⟩ := h.own
  exact ⟨es, clock, hb⟩
theorem Sh.turn {S : Nat → Prop} (h : Sh w0 w s mb n C K) (ht : Turn S w w') (hs : ¬ S s) (hS : ¬ S mb) : Sh w0 w' s mb n C K := by
  obtain ⟨D, hD⟩ := h.map
  exact ⟨ht.blk h.hs hs, h.los, h.lom, ⟨D, hD.turn ht hS⟩, h.good⟩
theorem Sh.nope (h : Sh w0 w s mb n C K) (ht : Turn Nope w w') : Sh w0 w' s mb n C K := h.turn ht (fun h => h) fun h => h
theorem Sh.cell (h : Sh w0 w s mb n C K) : w.cell? ⟨s, 0, none⟩ = some (.map (some mb)) := by
  have c0 := blk_cell h.hs 0
  simpa using c0
theorem Sh.ne (h : Sh w0 w s mb n C K) : s ≠ mb := by
  rintro rfl
  obtain ⟨D, hD⟩ := h.map
  obtain ⟨es, clock, hb⟩ := hD.blk
  rw [h.hs] at hb; cases hb
theorem CntM.look (h : CntM w mb n D C K) {x : ByteArray} (hx : x.size ≤ maxLen) : (Instr.lookup 90 (.map (some mb)) (.string x) true).run Try.prog w = .ok (.tuple #[.int .i64 (C x.data.toList), .bool (Maps.has D (.string x.data.toList))]) w := by
  obtain ⟨v, ps, hrun, hv⟩ := h.own.look_ok law9 Try.underlying90 (zero3 w) (zd := .lit (.int .i64 0)) (zp := []) (plainElem_int Try.underlying3 (by decide)) (Go.WideMaps.keyOf_string_mk Try.underlying9 hx)
  rw [h.val] at hv
  obtain ⟨c, rfl, hc, _⟩ := plainElem_int_inv Try.underlying3 hv
  injection hc with hc _
  injection hc with hc
  injection hc with _ hc
  rw [hc]; exact hrun
theorem CntM.look1 (h : CntM w mb n D C K) {x : ByteArray} (hx : x.size ≤ maxLen) : (Instr.lookup 90 (.map (some mb)) (.string x) false).run Try.prog w = .ok (.int .i64 (C x.data.toList)) w := by
  obtain ⟨v, ps, hrun, hv⟩ := h.own.lookup law9 Try.underlying90 (zero3 w) (zd := .lit (.int .i64 0)) (zp := []) (plainElem_int Try.underlying3 (by decide)) (Go.WideMaps.keyOf_string_mk Try.underlying9 hx)
  rw [h.val] at hv
  obtain ⟨c, rfl, hc, _⟩ := plainElem_int_inv Try.underlying3 hv
  injection hc with hc _
  injection hc with hc
  injection hc with _ hc
  rw [hc]; exact hrun
theorem CntM.put {x : Nm} {v : Int} {w1 : World} {K' : List Nm} (h : CntM w mb n D C K) (hv : v ≠ 0) (h1 : w1.ownsMap Try.prog 9 (plainElem (H := Unit) Try.prog 3) mb (n + 1) (D.put (.string x) (.lit (.int .i64 v)))) (hK : K' = if x ∈ K then K else x :: K) : CntM w1 mb (n + 1) (D.put (.string x) (.lit (.int .i64 v))) (fun y => if y = x then v else C y) K' := by
  subst hK
  refine ⟨h1, fun y => ?_, fun y => ?_, ?_⟩
  · by_cases hyx : y = x
    · subst hyx
      simp only [if_true]
      exact atKey_put_same h.own.isMap (show WideAt.IsKeyLit (.string y) from trivial) _ _
    · simp only [if_neg hyx]
      rw [atKey_put_other (by simpa using hyx)]
      exact h.val y
  · have hm : y ∈ (if x ∈ K then K else x :: K) ↔ y = x ∨ y ∈ K := by
      split
      · rename_i hx
        exact ⟨.inr, fun h => by rcases h with rfl | h; exact hx; exact h⟩
      · exact List.mem_cons
    rw [hm]
    by_cases hyx : y = x
    · subst hyx
      rw [has_put_same h.own.isMap (show WideAt.IsKeyLit (.string y) from trivial)]
      simp
    · rw [has_put_other (by simpa using hyx), h.has y]
      simp [hyx]
  · rw [size_put (h.own.tidy law9)]
    by_cases hx : x ∈ K
    · rw [if_pos ((h.has x).2 hx), if_pos hx, h.len]
    · rw [if_neg (fun e => hx ((h.has x).1 e)), if_neg hx, h.len]; rfl
theorem CntM.del {x : Nm} {w1 : World} (h : CntM w mb n D C K) (hnd : K.Nodup) (h1 : w1.ownsMap Try.prog 9 (plainElem (H := Unit) Try.prog 3) mb n (D.del (.string x))) : CntM w1 mb n (D.del (.string x)) (fun y => if y = x then 0 else C y) (K.erase x) := by
  refine ⟨h1, fun y => ?_, fun y => ?_, ?_⟩
  · by_cases hyx : y = x
    · subst hyx
      simp only [if_true]
      exact atKey_del_same _
    · simp only [if_neg hyx]
      rw [atKey_del_other (by simpa using hyx)]
      exact h.val y
  · by_cases hyx : y = x
    · subst hyx
      rw [has_del_same]
      simp [hnd.not_mem_erase]
    · rw [has_del_other (by simpa using hyx), h.has y, List.mem_erase_of_ne hyx]
  · have h2 := size_del (k := .string x) (h.own.tidy law9)
    rw [h.len] at h2
    by_cases hx : x ∈ K
    · rw [if_pos ((h.has x).2 hx)] at h2
      rw [List.length_erase_of_mem hx]; omega
    · rw [if_neg (fun e => hx ((h.has x).1 e))] at h2
      rw [List.erase_of_not_mem hx]; omega
theorem CntM.keys (h : CntM w mb n D C K) (hnd : K.Nodup) : K.Perm (strKeys D) := by
  obtain ⟨es, hD, hpw, _⟩ := h.own.entries law9
  obtain ⟨es', hD', hko⟩ := h.own.keysOf
  obtain rfl : es = es' := by rw [hD] at hD'; simpa using hD'
  have hh := h.has
  rw [hD] at hh ⊢
  exact perm_strKeys hpw (fun p hp => by obtain ⟨v, hv⟩ := hko p hp; obtain ⟨x, _, hx, _⟩ := Maps.keyOf_str Try.underlying9 hv; exact ⟨x, hx⟩) hnd fun x => (hh x).symm
end Go.Proofs.Yteggenihjhclkaa.Sk
set_option maxRecDepth 16000
set_option linter.unusedVariables false
set_option linter.unusedSimpArgs false
namespace Go.Proofs.Yteggenihjhclkaa.Sk
open Go.RowKit Go.Maps Go.Sort Go.Shelf
theorem it_sorts79 (m : Nat) : AnyZ.SortsIn Try.prog Try.sorted79_ren Fence.wide m :=
  ⟨fun blk off cap ss W hH hblk hsz => callsIn_wide.2 (AnyM.slices_Sort_string Try.sort82 blk off cap ss W hH hblk hsz),
   fun p cap W => callsIn_wide.2 (AnyM.slices_Sort_string_none Try.sort82 p cap W)⟩

theorem it_maps_Keys_19 (mb : Option Nat) (W : World) : CallsIn Fence.wide 5 Try.prog 80 #[.map mb] W fun e w' => e = .returned (.func (.func 83) #[] #[.pointer (some ⟨W.heap.size, 0, none⟩)]) ∧ w' = W.alloc (.cells #[.map mb] 90) :=
  AnyZ.keys_in Try.keys80 Fence.wide 5 trivial rfl mb W

set_option maxHeartbeats 1000000 in
theorem it_slices_Sorted_keys_79_80 {H : Type} (b nn : Nat) (D0 : DataW H) (R : Value → Option (DataW H × List MemPlace)) (w : World) (hown : w.ownsMap Try.prog 9 R b nn D0) (hmax : Maps.size D0 ≤ maxLen) (hbytes : Maps.size D0 * 16 ≤ 140737488355328) :
    CallsIn Fence.wide 5 Try.prog 79 #[.func (.func 83) #[] #[.pointer (some ⟨w.heap.size, 0, none⟩)]] (w.alloc (.cells #[.map (some b)] 90)) fun e w' => ∃ (v : Value) (ss : List (List UInt8)), e = .returned v ∧ ss.Perm (strKeys D0) ∧
      w'.ownsRow (w.alloc (.cells #[.map (some b)] 90)).heap.size 9 1 v ss.length ((ss.mergeSort (fun x y => decide (x ≤ y))).map encStr) ∧ (v = .slice none 0 0 ↔ ss = []) ∧ Below (w.alloc (.cells #[.map (some b)] 90)).heap.size (w.alloc (.cells #[.map (some b)] 90)) w' := by
  have hbl := hown.lt
  have hseq : SeqGives Fence.wide 2 Try.prog 83 #[.pointer (some ⟨w.heap.size, 0, none⟩)] encStr (fun ss => ss.Perm (strKeys D0)) (Maps.size D0) (w.alloc (.cells #[.map (some b)] 90)) :=
    AnyZ.keys_gives (ρ := Try.keys80_ren) { Try.keys80 with } Fence.wide _ trivial rfl (by omega) w.heap.size b nn D0 _ (by simp) (by simp) (by
      obtain ⟨es, clock, hb, Ft, hs, hD⟩ := hown
      exact ⟨es, clock, (Below.heap_alloc _ _ b hbl).trans hb, Ft, hs, hD⟩)
  exact AnyZ.sorted_in Try.sorted79 Fence.wide 5 trivial trivial trivial trivial rfl (by omega) (it_sorts79 _) (enters_of Try.func82 (by kernel_rfl) rfl) 83 #[.pointer (some ⟨w.heap.size, 0, none⟩)] trivial (enters_of Try.func83 (by kernel_rfl) rfl) _ _ hmax hbytes _ hseq

set_option maxHeartbeats 1000000 in
theorem it_slices_Sorted_keys_nil_79_80 (w : World) :
    CallsIn Fence.wide 5 Try.prog 79 #[.func (.func 83) #[] #[.pointer (some ⟨w.heap.size, 0, none⟩)]] (w.alloc (.cells #[.map none] 90)) fun e w' => ∃ (v : Value) (ss : List (List UInt8)), e = .returned v ∧ ss = [] ∧
      w'.ownsRow (w.alloc (.cells #[.map none] 90)).heap.size 9 1 v ss.length ((ss.mergeSort (fun x y => decide (x ≤ y))).map encStr) ∧ (v = .slice none 0 0 ↔ ss = []) ∧ Below (w.alloc (.cells #[.map none] 90)).heap.size (w.alloc (.cells #[.map none] 90)) w' := by
  have hseq : SeqGives Fence.wide 2 Try.prog 83 #[.pointer (some ⟨w.heap.size, 0, none⟩)] encStr (fun ss : List (List UInt8) => ss = []) 0 (w.alloc (.cells #[.map none] 90)) :=
    AnyZ.keys_gives_nil (ρ := Try.keys80_ren) { Try.keys80 with } Fence.wide _ trivial rfl w.heap.size _ (by simp) (by simp)
  exact AnyZ.sorted_in Try.sorted79 Fence.wide 5 trivial trivial trivial trivial rfl (by omega) (it_sorts79 _) (enters_of Try.func82 (by kernel_rfl) rfl) 83 #[.pointer (some ⟨w.heap.size, 0, none⟩)] trivial (enters_of Try.func83 (by kernel_rfl) rfl) _ 0 (Nat.zero_le _) (by omega) _ hseq


/-- The names, rising. -/
def srt (K : List Nm) : List Nm := K.mergeSort leB
def encs (L : List Nm) : List Value := L.map encStr
variable {C : Nm → Int} {K : List Nm} {w0 w w' : World} {s mb n : Nat} {D : Dm}
theorem srt_length (K : List Nm) : (srt K).length = K.length := List.length_mergeSort K
theorem srt_mem (K : List Nm) (x : Nm) : x ∈ srt K ↔ x ∈ K := (List.mergeSort_perm K _).mem_iff
theorem srt_perm {K L : List Nm} (h : K.Perm L) : srt K = srt L := mergeSort_of_perm h
set_option maxHeartbeats 4000000 in
theorem names_any (h : Sh w0 w s mb n C K) :
    Calls Try.prog 110 #[.pointer (some ⟨s, 0, none⟩)] w fun e w' => ∃ v, e = .returned v ∧ w'.ownsRow w.heap.size 9 1 v (srt K).length (encs (srt K)) ∧ Turn Nope w w' := by
  obtain ⟨D, hD⟩ := h.map
  have c0 := h.cell
  have hown := hD.own
  have hkeys := hD.keys h.good.nd
  have hle : Maps.size D ≤ 16 := by rw [hD.len]; exact h.good.le
  have HK := Lib.hid hkeys
  have hmax : Maps.size D ≤ maxLen := by unfold maxLen; omega
  have hbytes : Maps.size D * 16 ≤ 140737488355328 := by omega
  have cS := it_slices_Sorted_keys_79_80 mb n D _ w hown hmax hbytes
  have HCS := Lib.hid cS
  clear h hD hkeys hown hmax hbytes hle cS
  refine (callsIn_wide (n := 6)).1 ?_
  have hfK : Fence.wide.fn 80 := trivial
  have hfS : Fence.wide.fn 79 := trivial
  refine callsIn_of_wp Try.func110 rfl trivial ?_ rfl
  simp only [Try.ntmps110, List.size_toArray, List.length_cons, List.length_nil, Nat.reduceAdd, Nat.reduceSub, Array.replicate_succ, Array.replicate_zero, List.push_toArray, List.append_toArray, List.nil_append, List.cons_append]
  gi_wp2_with (first
    | (gi_at_call 80; refine (it_maps_Keys_19 _ _).mono ?_; rintro e w' ⟨rfl, rfl⟩)
    | (gi_at_call 79; refine HCS.out.mono ?_; rintro e w' ⟨v, ss, rfl, hS, hrow, hnil, hb⟩))
  go_ret
  have e : ss.mergeSort (fun x y => decide (x ≤ y)) = srt K := mergeSort_of_perm (hS.trans HK.out.symm)
  have el : ss.length = (srt K).length := by rw [← e, List.length_mergeSort]
  rw [e, el] at hrow
  exact ⟨v, rfl, ownsRow_base_a hrow (by simp), ((Turn.refl _ _).alloc _).below hb⟩
end Go.Proofs.Yteggenihjhclkaa.Sk
set_option maxRecDepth 16000
set_option linter.unusedVariables false
set_option linter.unusedSimpArgs false
namespace Go.Proofs.Yteggenihjhclkaa.Sk
open Go.RowKit Go.Maps
variable {C : Nm → Int} {K : List Nm} {w0 w w' : World} {s mb n : Nat} {D : Dm}
def nmOf (x : ByteArray) : Nm := x.data.toList
theorem nm_len (x : ByteArray) : (nmOf x).length = x.size := by unfold nmOf; rw [Array.length_toList]; rfl
theorem make_map (W : World) : (Instr.makeMap 90 none).run Try.prog W = .ok (.map (some W.heap.size)) (W.alloc (.map #[] 0)) := by
  first | exact run_makeMap W _ | kernel_rfl | rfl
theorem cnt_new (w : World) : CntM (w.alloc (.map #[] 0)) w.heap.size 0 (.map []) (fun _ => 0) [] := ⟨World.ownsMap_made _ _ _ _, fun x => rfl, fun x => by simp [Maps.has], rfl⟩
theorem new_any (w0 w : World) (ht : Turn Nope w0 w) : Calls Try.prog 26 #[] w fun e w' => ∃ s mb, e = .returned (.pointer (some ⟨s, 0, none⟩)) ∧ Sh w0 w' s mb 0 (fun _ => 0) [] ∧ w.heap.size ≤ s ∧ w.heap.size ≤ mb ∧ Turn Nope w w' := by
  have HT := Lib.hid ht
  clear ht
  have hmp := make_map
  go_enter Try.func26, Try.ntmps26
  go_wp2_with fail
  go_ret
  exact ⟨_, w.heap.size, rfl, ⟨(by have := blk_new (w.alloc (.map #[] 0)) (.cells #[.map (some w.heap.size)] 94); simpa using this), Nat.le_trans HT.out.size (by simp), HT.out.size, ⟨_, (cnt_new w).turn ((Turn.refl Nope _).alloc _) fun h => h⟩, good_new⟩, (by simp), Nat.le_refl _, ((Turn.refl _ _).alloc _).alloc _⟩
theorem chk_kind {o : Op3} (h : o.k ≠ 1 ∧ o.k ≠ 2) : chk o = 5 := by unfold chk; rw [if_pos h]
theorem chk_arg {o : Op3} (h : ¬ (o.k ≠ 1 ∧ o.k ≠ 2)) (h2 : o.nm = [] ∨ 12 < o.nm.length ∨ o.N < 1 ∨ 1099511627776 < o.N) : chk o = 4 := by unfold chk; rw [if_neg h, if_pos h2]
theorem chk_fine {o : Op3} (h : ¬ (o.k ≠ 1 ∧ o.k ≠ 2)) (h2 : ¬ (o.nm = [] ∨ 12 < o.nm.length ∨ o.N < 1 ∨ 1099511627776 < o.N)) : chk o = 0 := by unfold chk; rw [if_neg h, if_neg h2]
theorem nm_nil {x : ByteArray} : nmOf x = [] ↔ x.size = 0 := by
  rw [← nm_len, List.length_eq_zero_iff]
set_option maxHeartbeats 4000000 in
theorem check_any (kd : Int) (x : ByteArray) (N : Int) (w : World) : Calls Try.prog 29 #[.agg #[.int .i64 kd, .string x, .int .i64 N]] w fun e w' => e = .returned (.int .i64 (chk ⟨kd, nmOf x, N⟩)) ∧ Turn Nope w w' := by
  obtain ⟨c, hc⟩ : ∃ c, chk ⟨kd, nmOf x, N⟩ = c := ⟨_, rfl⟩
  rw [hc]
  have HC := Lib.hid hc
  clear hc
  by_cases k1 : kd = 1 ∨ kd = 2
  · by_cases h1 : x.size = 0
    · have hx : x = ⟨#[]⟩ := ByteArray.ext (Array.eq_empty_of_size_eq_zero h1)
      subst hx
      clear h1
      rcases k1 with rfl | rfl
      · have a1 : ((1 : Int) != 1) = false := by decide
        have a2 : ((1 : Int) != 2) = true := by decide
        have hv : c = 4 := by rw [← HC.out]; exact chk_arg (fun h => by first | exact h.1 rfl | exact h.2 rfl) (.inl rfl)
        subst hv
        go_enter Try.func29, Try.ntmps29
        go_wp2_with (go_quiet (fail))
        all_goals
          go_ret
          exact ⟨rfl, by repeat (first | exact Turn.refl _ _ | apply Turn.drewN | apply Turn.drew | apply Turn.alloc)⟩
      · have a1 : ((2 : Int) != 1) = true := by decide
        have a2 : ((2 : Int) != 2) = false := by decide
        have hv : c = 4 := by rw [← HC.out]; exact chk_arg (fun h => by first | exact h.1 rfl | exact h.2 rfl) (.inl rfl)
        subst hv
        go_enter Try.func29, Try.ntmps29
        go_wp2_with (go_quiet (fail))
        all_goals
          go_ret
          exact ⟨rfl, by repeat (first | exact Turn.refl _ _ | apply Turn.drewN | apply Turn.drew | apply Turn.alloc)⟩
    · have e1 : x.toList.isEmpty = false := by
        rw [ByteArray.toList_eq, List.isEmpty_eq_false_iff]; intro e; exact h1 (nm_nil.1 e)
      by_cases h2 : 12 < x.size
      · have e2 : decide ((12 : Int) < (x.size : Int)) = true := by simp; omega
        have e2n : decide (12 < x.size) = true := by simp; omega
        rcases k1 with rfl | rfl
        · have a1 : ((1 : Int) != 1) = false := by decide
          have a2 : ((1 : Int) != 2) = true := by decide
          have hv : c = 4 := by rw [← HC.out]; exact chk_arg (fun h => by first | exact h.1 rfl | exact h.2 rfl) (.inr (.inl (by rw [nm_len]; exact h2)))
          subst hv
          go_enter Try.func29, Try.ntmps29
          go_wp2_with (go_quiet (fail))
          all_goals
            go_ret
            exact ⟨rfl, by repeat (first | exact Turn.refl _ _ | apply Turn.drewN | apply Turn.drew | apply Turn.alloc)⟩
        · have a1 : ((2 : Int) != 1) = true := by decide
          have a2 : ((2 : Int) != 2) = false := by decide
          have hv : c = 4 := by rw [← HC.out]; exact chk_arg (fun h => by first | exact h.1 rfl | exact h.2 rfl) (.inr (.inl (by rw [nm_len]; exact h2)))
          subst hv
          go_enter Try.func29, Try.ntmps29
          go_wp2_with (go_quiet (fail))
          all_goals
            go_ret
            exact ⟨rfl, by repeat (first | exact Turn.refl _ _ | apply Turn.drewN | apply Turn.drew | apply Turn.alloc)⟩
      · have e2 : decide ((12 : Int) < (x.size : Int)) = false := by simp; omega
        have e2n : decide (12 < x.size) = false := by simp; omega
        by_cases h3 : N < 1
        · have e3 : decide (N < 1) = true := by simp; omega
          rcases k1 with rfl | rfl
          · have a1 : ((1 : Int) != 1) = false := by decide
            have a2 : ((1 : Int) != 2) = true := by decide
            have hv : c = 4 := by rw [← HC.out]; exact chk_arg (fun h => by first | exact h.1 rfl | exact h.2 rfl) (.inr (.inr (.inl h3)))
            subst hv
            go_enter Try.func29, Try.ntmps29
            go_wp2_with (go_quiet (fail))
            all_goals
              go_ret
              exact ⟨rfl, by repeat (first | exact Turn.refl _ _ | apply Turn.drewN | apply Turn.drew | apply Turn.alloc)⟩
          · have a1 : ((2 : Int) != 1) = true := by decide
            have a2 : ((2 : Int) != 2) = false := by decide
            have hv : c = 4 := by rw [← HC.out]; exact chk_arg (fun h => by first | exact h.1 rfl | exact h.2 rfl) (.inr (.inr (.inl h3)))
            subst hv
            go_enter Try.func29, Try.ntmps29
            go_wp2_with (go_quiet (fail))
            all_goals
              go_ret
              exact ⟨rfl, by repeat (first | exact Turn.refl _ _ | apply Turn.drewN | apply Turn.drew | apply Turn.alloc)⟩
        · have e3 : decide (N < 1) = false := by simp; omega
          by_cases h4 : 1099511627776 < N
          · have e4 : decide (1099511627776 < N) = true := by simp; omega
            rcases k1 with rfl | rfl
            · have a1 : ((1 : Int) != 1) = false := by decide
              have a2 : ((1 : Int) != 2) = true := by decide
              have hv : c = 4 := by rw [← HC.out]; exact chk_arg (fun h => by first | exact h.1 rfl | exact h.2 rfl) (.inr (.inr (.inr h4)))
              subst hv
              go_enter Try.func29, Try.ntmps29
              go_wp2_with (go_quiet (fail))
              all_goals
                go_ret
                exact ⟨rfl, by repeat (first | exact Turn.refl _ _ | apply Turn.drewN | apply Turn.drew | apply Turn.alloc)⟩
            · have a1 : ((2 : Int) != 1) = true := by decide
              have a2 : ((2 : Int) != 2) = false := by decide
              have hv : c = 4 := by rw [← HC.out]; exact chk_arg (fun h => by first | exact h.1 rfl | exact h.2 rfl) (.inr (.inr (.inr h4)))
              subst hv
              go_enter Try.func29, Try.ntmps29
              go_wp2_with (go_quiet (fail))
              all_goals
                go_ret
                exact ⟨rfl, by repeat (first | exact Turn.refl _ _ | apply Turn.drewN | apply Turn.drew | apply Turn.alloc)⟩
          · have e4 : decide (1099511627776 < N) = false := by simp; omega
            rcases k1 with rfl | rfl
            · have a1 : ((1 : Int) != 1) = false := by decide
              have a2 : ((1 : Int) != 2) = true := by decide
              have hv : c = 0 := by rw [← HC.out]; exact chk_fine (fun h => by first | exact h.1 rfl | exact h.2 rfl) (fun h => by rcases h with h | h | h | h; exact h1 (nm_nil.1 h); exact h2 (by rw [nm_len] at h; exact h); exact h3 h; exact h4 h)
              subst hv
              go_enter Try.func29, Try.ntmps29
              go_wp2_with (go_quiet (fail))
              all_goals
                go_ret
                exact ⟨rfl, by repeat (first | exact Turn.refl _ _ | apply Turn.drewN | apply Turn.drew | apply Turn.alloc)⟩
            · have a1 : ((2 : Int) != 1) = true := by decide
              have a2 : ((2 : Int) != 2) = false := by decide
              have hv : c = 0 := by rw [← HC.out]; exact chk_fine (fun h => by first | exact h.1 rfl | exact h.2 rfl) (fun h => by rcases h with h | h | h | h; exact h1 (nm_nil.1 h); exact h2 (by rw [nm_len] at h; exact h); exact h3 h; exact h4 h)
              subst hv
              go_enter Try.func29, Try.ntmps29
              go_wp2_with (go_quiet (fail))
              all_goals
                go_ret
                exact ⟨rfl, by repeat (first | exact Turn.refl _ _ | apply Turn.drewN | apply Turn.drew | apply Turn.alloc)⟩
  · have a1 : (kd != 1) = true := by simp; omega
    have a2 : (kd != 2) = true := by simp; omega
    have hv : c = 5 := by rw [← HC.out]; exact chk_kind (by constructor <;> (intro e; exact k1 (by first | exact .inl e | exact .inr e)))
    subst hv
    go_enter Try.func29, Try.ntmps29
    go_wp2_with (go_quiet (fail))
    all_goals
      go_ret
      exact ⟨rfl, by repeat (first | exact Turn.refl _ _ | apply Turn.drewN | apply Turn.drew | apply Turn.alloc)⟩
end Go.Proofs.Yteggenihjhclkaa.Sk
set_option maxRecDepth 16000
set_option linter.unusedVariables false
set_option linter.unusedSimpArgs false
namespace Go.Proofs.Yteggenihjhclkaa.Sk
open Go.RowKit Go.Maps
variable {C : Nm → Int} {K : List Nm} {w0 w w' : World} {s mb n : Nat} {D : Dm} {o : Op3}
theorem CntM.mono (h : CntM w mb n D C K) {n' : Nat} (hn : n ≤ n') : CntM w mb n' D C K := ⟨h.own.mono hn, h.val, h.has, h.len⟩
theorem Sh.none (h : Sh w0 w s mb n C K) (hd : doE C K o ≠ 0) : Sh w0 w s mb (n + 1) (doC C K o) (doK C K o) := by
  unfold doC doK
  rw [if_neg hd, if_neg hd]
  obtain ⟨D, hD⟩ := h.map
  exact ⟨h.hs, h.los, h.lom, ⟨D, hD.mono (Nat.le_succ n)⟩, h.good⟩
theorem Sh.put {w5 : World} (h : Sh w0 w s mb n C K) (hD : CntM w mb n D C K) (hd : doE C K o = 0) (hv : newC C o o.nm ≠ 0) (hown : w5.ownsMap Try.prog 9 (plainElem (H := Unit) Try.prog 3) mb (n + 1) (D.put (.string o.nm) (.lit (.int .i64 (newC C o o.nm))))) (hg : w.grownBy w5 (some mb)) : Sh w0 w5 s mb (n + 1) (doC C K o) (doK C K o) := by
  unfold doC doK
  rw [if_pos hd, if_pos hd]
  have hin : o.nm ∈ K ↔ C o.nm ≠ 0 := h.good.mem _
  have hK : newK C K o = if o.nm ∈ K then K else o.nm :: K := by
    rw [newC_at] at hv
    unfold newK
    have ht := (doE_ok hd).2.2.2.2.2.1
    by_cases hk : o.k = 2
    · rw [if_pos hk] at hv ⊢
      have ht := ht hk
      rw [if_neg (by omega), if_pos (hin.2 ht.1)]
    · rw [if_neg hk]
      by_cases h0 : C o.nm = 0
      · rw [if_pos h0, if_neg fun e => hin.1 e h0]
      · rw [if_neg h0, if_pos (hin.2 h0)]
  have hC : (fun y => if y = o.nm then newC C o o.nm else C y) = newC C o := by
    funext y
    by_cases hy : y = o.nm
    · rw [if_pos hy, hy]
    · rw [if_neg hy, newC_far hy]
  have h1 := hD.put hv hown hK
  rw [hC] at h1
  exact ⟨blk_grown h.hs hg (fun e => by injection e with e; exact h.ne e.symm), h.los, h.lom, ⟨_, h1⟩, h.good.put hd⟩
theorem Sh.del {w5 : World} (h : Sh w0 w s mb n C K) (hD : CntM w mb n D C K) (hd : doE C K o = 0) (hk : o.k = 2) (hv : C o.nm = o.N) (hown : w5.ownsMap Try.prog 9 (plainElem (H := Unit) Try.prog 3) mb n (D.del (.string o.nm))) (hg : w.grownBy w5 (some mb)) : Sh w0 w5 s mb (n + 1) (doC C K o) (doK C K o) := by
  unfold doC doK
  rw [if_pos hd, if_pos hd]
  have hK : newK C K o = K.erase o.nm := by unfold newK; rw [if_pos hk, if_pos hv]
  have hC : (fun y => if y = o.nm then 0 else C y) = newC C o := by
    funext y
    by_cases hy : y = o.nm
    · rw [if_pos hy, hy, newC_at, if_pos hk, hv]; omega
    · rw [if_neg hy, newC_far hy]
  have h1 := hD.del h.good.nd hown
  rw [hC] at h1
  have hgood := h.good.put hd
  rw [hK] at hgood ⊢
  exact ⟨blk_grown h.hs hg (fun e => by injection e with e; exact h.ne e.symm), h.los, h.lom, ⟨_, h1.mono (Nat.le_succ n)⟩, hgood⟩
theorem doE_chk (h : chk o ≠ 0) : doE C K o = chk o := by unfold doE; rw [if_pos h]
theorem wf_small {v : Int} (h0 : 0 ≤ v) (h1 : v ≤ 4398046511104) : (Lit.int .i64 v).wf = true := by
  have a : IntKind.i64.min ≤ v := Int.le_trans (by decide) h0
  have b : v ≤ IntKind.i64.max := Int.le_trans h1 (by decide)
  show (decide (_ ≤ _) && decide (_ ≤ _)) = true
  rw [decide_eq_true a, decide_eq_true b]; rfl
set_option maxHeartbeats 8000000 in
theorem do_any (h : Sh w0 w s mb n C K) (hn : n ≤ 1000000) (kd N : Int) (x : ByteArray) (hx : x.size ≤ maxLen) :
    Calls Try.prog 108 #[.pointer (some ⟨s, 0, none⟩), .agg #[.int .i64 kd, .string x, .int .i64 N]] w fun e w' => e = .returned (.int .i64 (doE C K ⟨kd, nmOf x, N⟩)) ∧ Sh w0 w' s mb (n + 1) (doC C K ⟨kd, nmOf x, N⟩) (doK C K ⟨kd, nmOf x, N⟩) ∧ Turn (At mb) w w' := by
  obtain ⟨R, hR⟩ : ∃ R, doE C K ⟨kd, nmOf x, N⟩ = R := ⟨_, rfl⟩
  rw [hR]
  have HR := Lib.hid hR
  have H0 := Lib.hid h
  have HN := Lib.hid (And.intro hn hx)
  clear hR h hn hx
  go_enter Try.func108, Try.ntmps108
  go_wp2_with fail
  have HB0 := Lib.hid (blk_new w (.cells #[.int .i64 kd, .string x, .int .i64 N] 28))
  obtain ⟨B, hB⟩ : ∃ B, w.heap.size = B := ⟨_, rfl⟩
  refine (check_any kd x N _).mono ?_
  rintro e w1 ⟨rfl, ht⟩
  have HB1 : Hid (w1.heap[B]? = some (.cells #[.int .i64 kd, .string x, .int .i64 N] 28 (0, 0))) := by rw [← hB]; exact ht.blk HB0.out fun h => h
  have HT1 : Hid (Turn Nope w w1) := ((Turn.refl _ _).alloc _).trans ht
  rw [hB]
  clear hB ht HB0
  have H1 := Lib.hid (H0.out.nope HT1.out)
  obtain ⟨c, hc⟩ : ∃ c, chk ⟨kd, nmOf x, N⟩ = c := ⟨_, rfl⟩
  rw [hc]
  have HC := Lib.hid hc
  clear hc
  by_cases hc0 : c = 0
  · obtain ⟨D, hD⟩ := H1.out.map
    have HD := Lib.hid hD
    have z0 : (c != 0) = false := by simp [hc0]
    have HC0 : Hid (chk ⟨kd, nmOf x, N⟩ = 0) := by rw [HC.out]; exact hc0
    have hkd : kd = 1 ∨ kd = 2 := by
      have h1 := HC0.out
      unfold chk at h1
      by_cases h2 : kd ≠ 1 ∧ kd ≠ 2
      · rw [if_pos h2] at h1; cases h1
      · omega
    have HNB : Hid (1 ≤ N ∧ N ≤ 1099511627776) := by
      have h1 := HC0.out
      unfold chk at h1
      by_cases h2 : kd ≠ 1 ∧ kd ≠ 2
      · rw [if_pos h2] at h1; cases h1
      · rw [if_neg h2] at h1
        by_cases h3 : nmOf x = [] ∨ 12 < (nmOf x).length ∨ N < 1 ∨ 1099511627776 < N
        · rw [if_pos h3] at h1; cases h1
        · exact ⟨by omega, by omega⟩
    obtain ⟨T, hT⟩ : ∃ T, Maps.has D (.string (nmOf x)) = T := ⟨_, rfl⟩
    obtain ⟨v0, hv0⟩ : ∃ v0, C (nmOf x) = v0 := ⟨_, rfl⟩
    have HT : Hid (T = true ↔ v0 ≠ 0) := by
      rw [← hT, ← hv0, HD.out.has]
      exact H1.out.good.mem _
    have HV : Hid (0 ≤ v0 ∧ v0 ≤ 1099511627776 ∧ C (nmOf x) = v0) := by
      rw [← hv0]; exact ⟨H1.out.good.lo _, H1.out.good.hi _, rfl⟩
    have lk : (Instr.lookup 90 (.map (some mb)) (.string x) true).run Try.prog w1 = .ok (.tuple #[.int .i64 v0, .bool T]) w1 := by
      rw [← hT, ← hv0]; exact HD.out.look HN.out.2
    have lk2 : (Instr.lookup 90 (.map (some mb)) (.string x) true).run Try.prog w1.drew = .ok (.tuple #[.int .i64 v0, .bool T]) w1.drew := by
      rw [← hT, ← hv0]; exact (HD.out.turn (Turn.refl Nope w1).drew fun h => h).look HN.out.2
    have c0 := H1.out.cell
    have b0 := blk_cell HB1.out 0
    have b1 := blk_cell HB1.out 1
    have b2 := blk_cell HB1.out 2
    simp only [List.getElem?_toArray, List.getElem?_cons_zero, List.getElem?_cons_succ] at b0 b1 b2
    have hkey : keyOf Try.prog 9 (.string x) = some (.string (nmOf x)) := Go.WideMaps.keyOf_string_mk Try.underlying9 HN.out.2
    clear hD hc0 hT hv0
    go_upto_region 4 with (fail)
    refine wp_region_held_drew (S := fun W => W.cell? ⟨s, 0, none⟩ = some (.map (some mb)) ∧ W.cell? ⟨B, 1, none⟩ = some (.string x) ∧ (Instr.lookup 90 (.map (some mb)) (.string x) true).run Try.prog W = .ok (.tuple #[.int .i64 v0, .bool T]) W) (by kernel_rfl) ⟨c0, b1, lk2⟩ (fun hHeld => ?_)
    refine' wpAnyH_take (i := 0) (v := _) (by simp only [List.getElem?_toArray, List.getElem?_cons_succ, List.getElem?_cons_zero]; rfl) (by kernel_rfl) (by kernel_rfl) (by kernel_rfl) (by intro _ _ _ h; exact h) (Or.inl ⟨by rfl, ?hyr40⟩) hHeld ?restr40
    case hyr40 => (intro w hSw; (try dsimp only at hSw); go_simp; try (with_reducible rfl))
    simp only [Act.put, List.setIfInBounds_toArray, List.set_cons_zero, List.set_cons_succ]
    refine' wpAnyH_take (i := 1) (v := _) (by simp only [List.getElem?_toArray, List.getElem?_cons_succ, List.getElem?_cons_zero]; rfl) (by kernel_rfl) (by kernel_rfl) (by kernel_rfl) (by intro _ _ _ h; exact h) (Or.inl ⟨by rfl, ?hyr41⟩) hHeld ?restr41
    case hyr41 => (intro w hSw; (try dsimp only at hSw); go_simp; try (with_reducible rfl))
    simp only [Act.put, List.setIfInBounds_toArray, List.set_cons_zero, List.set_cons_succ]
    refine' wpAnyH_take (i := 2) (v := _) (by simp only [List.getElem?_toArray, List.getElem?_cons_succ, List.getElem?_cons_zero]; rfl) (by kernel_rfl) (by kernel_rfl) (by kernel_rfl) (by intro _ _ _ h; exact h) (Or.inl ⟨by rfl, ?hyr42⟩) hHeld ?restr42
    case hyr42 => (intro w hSw; (try dsimp only at hSw); go_simp; try (with_reducible rfl))
    simp only [Act.put, List.setIfInBounds_toArray, List.set_cons_zero, List.set_cons_succ]
    refine' wpAnyH_take (i := 3) (v := _) (by simp only [List.getElem?_toArray, List.getElem?_cons_succ, List.getElem?_cons_zero]; rfl) (by kernel_rfl) (by kernel_rfl) (by kernel_rfl) (by intro _ _ _ h; exact h) (Or.inl ⟨by rfl, ?hyr43⟩) hHeld ?restr43
    case hyr43 => (intro w hSw; (try dsimp only at hSw); go_simp; try (with_reducible rfl))
    simp only [Act.put, List.setIfInBounds_toArray, List.set_cons_zero, List.set_cons_succ]
    refine' wpAnyH_take (i := 4) (v := _) (by simp only [List.getElem?_toArray, List.getElem?_cons_succ, List.getElem?_cons_zero]; rfl) (by kernel_rfl) (by kernel_rfl) (by kernel_rfl) (by intro _ _ _ h; exact h) (Or.inl ⟨by rfl, ?hyr44⟩) hHeld ?restr44
    case hyr44 => (intro w hSw; (try dsimp only at hSw); go_simp; try (with_reducible rfl))
    simp only [Act.put, List.setIfInBounds_toArray, List.set_cons_zero, List.set_cons_succ]
    refine' wpAnyH_take (i := 5) (v := _) (by simp only [List.getElem?_toArray, List.getElem?_cons_succ, List.getElem?_cons_zero]; rfl) (by kernel_rfl) (by kernel_rfl) (by kernel_rfl) (by intro _ _ _ h; exact h) (Or.inl ⟨by rfl, ?hyr45⟩) hHeld ?restr45
    case hyr45 => (intro w hSw; (try dsimp only at hSw); go_simp; try (with_reducible rfl))
    simp only [Act.put, List.setIfInBounds_toArray, List.set_cons_zero, List.set_cons_succ]
    refine' wpAnyH_take (i := 6) (v := _) (by simp only [List.getElem?_toArray, List.getElem?_cons_succ, List.getElem?_cons_zero]; rfl) (by kernel_rfl) (by kernel_rfl) (by kernel_rfl) (by intro _ _ _ h; exact h) (Or.inl ⟨by rfl, ?hyr46⟩) hHeld ?restr46
    case hyr46 => (intro w hSw; (try dsimp only at hSw); go_simp; try (with_reducible rfl))
    simp only [Act.put, List.setIfInBounds_toArray, List.set_cons_zero, List.set_cons_succ]
    refine' wpAnyH_take (i := 7) (v := _) (by simp only [List.getElem?_toArray, List.getElem?_cons_succ, List.getElem?_cons_zero]; rfl) (by kernel_rfl) (by kernel_rfl) (by kernel_rfl) (by intro _ _ _ h; exact h) (Or.inl ⟨by rfl, ?hyr47⟩) hHeld ?restr47
    case hyr47 => (intro w hSw; (try dsimp only at hSw); go_simp; try (with_reducible rfl))
    simp only [Act.put, List.setIfInBounds_toArray, List.set_cons_zero, List.set_cons_succ]
    refine' wpAnyH_take (i := 8) (v := _) (by simp only [List.getElem?_toArray, List.getElem?_cons_succ, List.getElem?_cons_zero]; rfl) (by kernel_rfl) (by kernel_rfl) (by kernel_rfl) (by intro _ _ _ h; exact h) (Or.inl ⟨by rfl, ?hyr48⟩) hHeld ?restr48
    case hyr48 => (intro w hSw; (try dsimp only at hSw); go_simp; try (with_reducible rfl))
    simp only [Act.put, List.setIfInBounds_toArray, List.set_cons_zero, List.set_cons_succ]
    refine' wpAnyH_take (i := 9) (v := _) (by simp only [List.getElem?_toArray, List.getElem?_cons_succ, List.getElem?_cons_zero]; rfl) (by kernel_rfl) (by kernel_rfl) (by kernel_rfl) (by intro _ _ _ h; exact h) (Or.inl ⟨by rfl, ?hyr49⟩) hHeld ?restr49
    case hyr49 => (intro w hSw; (try dsimp only at hSw); go_simp; try (with_reducible rfl))
    simp only [Act.put, List.setIfInBounds_toArray, List.set_cons_zero, List.set_cons_succ]
    refine' wpAnyH_take (i := 10) (v := _) (by simp only [List.getElem?_toArray, List.getElem?_cons_succ, List.getElem?_cons_zero]; rfl) (by kernel_rfl) (by kernel_rfl) (by kernel_rfl) (by intro _ _ _ h; exact h) (Or.inl ⟨by rfl, ?hyr410⟩) hHeld ?restr410
    case hyr410 => (intro w hSw; (try dsimp only at hSw); go_simp; try (with_reducible rfl))
    simp only [Act.put, List.setIfInBounds_toArray, List.set_cons_zero, List.set_cons_succ]
    refine' wpAnyH_take (i := 11) (v := _) (by simp only [List.getElem?_toArray, List.getElem?_cons_succ, List.getElem?_cons_zero]; rfl) (by kernel_rfl) (by kernel_rfl) (by kernel_rfl) (by intro _ _ _ h; exact h) (Or.inl ⟨by rfl, ?hyr411⟩) hHeld ?restr411
    case hyr411 => (intro w hSw; (try dsimp only at hSw); go_simp; try (with_reducible rfl))
    simp only [Act.put, List.setIfInBounds_toArray, List.set_cons_zero, List.set_cons_succ]
    refine wpAnyH_done (by kernel_rfl) ?_ _
    clear hHeld lk lk2
    have H2 := Lib.hid (H1.out.nope (Turn.refl Nope w1).drew)
    have HT2 := Lib.hid (HT1.out.trans (Turn.refl Nope w1).drew)
    have HD2 := Lib.hid (HD.out.turn (Turn.refl Nope w1).drew fun h => h)
    have c0 : w1.drew.cell? ⟨s, 0, none⟩ = some (.map (some mb)) := c0
    have b0 : w1.drew.cell? ⟨B, 0, none⟩ = _ := b0
    have b1 : w1.drew.cell? ⟨B, 1, none⟩ = _ := b1
    have b2 : w1.drew.cell? ⟨B, 2, none⟩ = _ := b2
    clear H1 HT1 HD HB1
    generalize w1.drew = w2 at *
    rcases hkd with rfl | rfl
    · have k2 : ((1 : Int) == 2) = false := by decide
      have hlen : (Builtin.len_ #[90] 3 #[.map (some mb)]).run Try.prog w2 = .ok (.int .i64 (K.length : Int)) w2 := by rw [← HD2.out.len]; exact HD2.out.own.len Try.underlying90 3
      have hlen2 : (Builtin.len_ #[90] 3 #[.map (some mb)]).run Try.prog w2.drew = .ok (.int .i64 (K.length : Int)) w2.drew := by rw [← HD2.out.len]; exact (HD2.out.turn (Turn.refl Nope w2).drew fun h => h).own.len Try.underlying90 3
      by_cases h0 : v0 = 0
      · have hTf : T = false := by cases T with | false => rfl | true => exact absurd h0 (HT.out.1 rfl)
        subst hTf
        by_cases h1 : 16 ≤ K.length
        · have e1 : decide ((16 : Int) ≤ (K.length : Int)) = true := by simp; omega
          have e1n : decide (16 ≤ K.length) = true := by simp; omega
          have HE : Hid (R = 7 ∧ doE C K ⟨1, nmOf x, N⟩ ≠ 0) := by
            have h2 : doE C K ⟨1, nmOf x, N⟩ = 7 := by unfold doE; rw [if_neg (by rw [HC0.out]; simp), if_neg (show ¬ (1 : Int) = 2 by decide)]; simp only [HV.out.2.2]; rw [if_pos ⟨h0, h1⟩]
            rw [← HR.out, h2]; exact ⟨rfl, by decide⟩
          clear h0 h1
          go_wp2_with (go_quiet (fail))
          all_goals
            go_ret
            exact ⟨by rw [HE.out.1]; rfl, (H2.out.nope (by repeat (first | exact Turn.refl _ _ | apply Turn.drewN | apply Turn.drew))).none HE.out.2, (HT2.out.trans (by repeat (first | exact Turn.refl _ _ | apply Turn.drewN | apply Turn.drew))).mono fun _ h => h.elim⟩
        · have e1 : decide ((16 : Int) ≤ (K.length : Int)) = false := by simp; omega
          have e1n : decide (16 ≤ K.length) = false := by simp; omega
          have e2 : decide (1099511627776 < v0 + N) = false := by have := HNB.out; simp; omega
          have HE : Hid (R = 0 ∧ doE C K ⟨1, nmOf x, N⟩ = 0) := by
            have h2 : doE C K ⟨1, nmOf x, N⟩ = 0 := by unfold doE; rw [if_neg (by rw [HC0.out]; simp), if_neg (show ¬ (1 : Int) = 2 by decide)]; simp only [HV.out.2.2]; rw [if_neg (fun h => h1 h.2), if_neg (by have := HNB.out; omega)]
            rw [← HR.out]; exact ⟨h2, h2⟩
          obtain ⟨v, hv⟩ : ∃ v, v0 + N = v := ⟨_, rfl⟩
          have hvr : 1 ≤ v ∧ v ≤ 4398046511104 := by have := HV.out; have := HNB.out; omega
          have hw : wrap64 (v0 + N) = v := by rw [hv]; exact IntWalk.wrap64_in _ ⟨by omega, by omega⟩
          have hw' : IntKind.i64.wrap (v0 + N) = v := by rw [hv]; exact IntWalk.i64_in _ ⟨by omega, by omega⟩
          have HVV : Hid (newC C ⟨1, nmOf x, N⟩ (nmOf x) = v ∧ v ≠ 0) := ⟨by rw [← hv, ← HV.out.2.2]; exact newC_at (o := ⟨1, nmOf x, N⟩), by omega⟩
          have HVW := Lib.hid (wf_small (v := v) (by omega) (by omega))
          have e2v : decide (1099511627776 < v) = false := by rw [← hv]; exact e2
          clear h0 h1 hv
          go_wp2_with (first | (refine still_tail (id := 19) 10 (by kernel_rfl) (by kernel_rfl) ?_; simp only [List.take_succ_cons, List.take_zero, List.drop_succ_cons, List.drop_zero]; (repeat still_step); refine wpStill_nil ?_) | (at_mapUpdate; go_loud (refine wpList_mapUpdate_own _ rfl _ _ _ 90 rfl 9 3 law9 Try.underlying90 (plainElem (H := Unit) Try.prog 3) mb n D rfl (show _ from HD2.out.own) (by have := HN.out.1; show n < maxLen; unfold maxLen; omega) _ _ (.string (nmOf x)) rfl rfl hkey (.lit (.int .i64 v)) [] (plainElem_int Try.underlying3 HVW.out) ?_; intro w5 hown1 hgrow1; have HO5 := Lib.hid hown1; have HG5 : Hid (w2.grownBy w5 (some mb)) := ⟨hgrow1.os, hgrow1.tape, hgrow1.output, hgrow1.size, hgrow1.block⟩; clear hown1 hgrow1)) | (go_quiet (fail)))
          all_goals
            go_ret
            exact ⟨by rw [HE.out.1]; rfl, H2.out.put HD2.out HE.out.2 (by rw [HVV.out.1]; exact HVV.out.2) (by rw [HVV.out.1]; exact HO5.out) HG5.out, (HT2.out.mono (S' := At mb) fun _ h => h.elim).grown HG5.out (fun k hk => .inl (by injection hk with hk; exact hk.symm))⟩
      · have hTt : T = true := HT.out.2 h0
        subst hTt
        by_cases h1 : 1099511627776 < v0 + N
        · have hs : wrap64 (v0 + N) = v0 + N := IntWalk.wrap64_in _ ⟨by have := HV.out; have := HNB.out; omega, by have := HV.out; have := HNB.out; omega⟩
          have hs' : IntKind.i64.wrap (v0 + N) = v0 + N := IntWalk.i64_in _ ⟨by have := HV.out; have := HNB.out; omega, by have := HV.out; have := HNB.out; omega⟩
          have e2 : decide (1099511627776 < v0 + N) = true := by simpa using h1
          have HE : Hid (R = 10 ∧ doE C K ⟨1, nmOf x, N⟩ ≠ 0) := by
            have h2 : doE C K ⟨1, nmOf x, N⟩ = 10 := by unfold doE; rw [if_neg (by rw [HC0.out]; simp), if_neg (show ¬ (1 : Int) = 2 by decide)]; simp only [HV.out.2.2]; rw [if_neg (fun h => h0 h.1), if_pos h1]
            rw [← HR.out, h2]; exact ⟨rfl, by decide⟩
          clear h0 h1
          go_wp2_with (go_quiet (fail))
          all_goals
            go_ret
            exact ⟨by rw [HE.out.1]; rfl, (H2.out.nope (by repeat (first | exact Turn.refl _ _ | apply Turn.drewN | apply Turn.drew))).none HE.out.2, (HT2.out.trans (by repeat (first | exact Turn.refl _ _ | apply Turn.drewN | apply Turn.drew))).mono fun _ h => h.elim⟩
        · have e2 : decide (1099511627776 < v0 + N) = false := by simpa using h1
          have HE : Hid (R = 0 ∧ doE C K ⟨1, nmOf x, N⟩ = 0) := by
            have h2 : doE C K ⟨1, nmOf x, N⟩ = 0 := by unfold doE; rw [if_neg (by rw [HC0.out]; simp), if_neg (show ¬ (1 : Int) = 2 by decide)]; simp only [HV.out.2.2]; rw [if_neg (fun h => h0 h.1), if_neg h1]
            rw [← HR.out]; exact ⟨h2, h2⟩
          obtain ⟨v, hv⟩ : ∃ v, v0 + N = v := ⟨_, rfl⟩
          have hvr : 1 ≤ v ∧ v ≤ 4398046511104 := by have := HV.out; have := HNB.out; omega
          have hw : wrap64 (v0 + N) = v := by rw [hv]; exact IntWalk.wrap64_in _ ⟨by omega, by omega⟩
          have hw' : IntKind.i64.wrap (v0 + N) = v := by rw [hv]; exact IntWalk.i64_in _ ⟨by omega, by omega⟩
          have HVV : Hid (newC C ⟨1, nmOf x, N⟩ (nmOf x) = v ∧ v ≠ 0) := ⟨by rw [← hv, ← HV.out.2.2]; exact newC_at (o := ⟨1, nmOf x, N⟩), by omega⟩
          have HVW := Lib.hid (wf_small (v := v) (by omega) (by omega))
          have e2v : decide (1099511627776 < v) = false := by rw [← hv]; exact e2
          clear h0 h1 hv
          go_wp2_with (first | (refine still_tail (id := 19) 10 (by kernel_rfl) (by kernel_rfl) ?_; simp only [List.take_succ_cons, List.take_zero, List.drop_succ_cons, List.drop_zero]; (repeat still_step); refine wpStill_nil ?_) | (at_mapUpdate; go_loud (refine wpList_mapUpdate_own _ rfl _ _ _ 90 rfl 9 3 law9 Try.underlying90 (plainElem (H := Unit) Try.prog 3) mb n D rfl (show _ from HD2.out.own) (by have := HN.out.1; show n < maxLen; unfold maxLen; omega) _ _ (.string (nmOf x)) rfl rfl hkey (.lit (.int .i64 v)) [] (plainElem_int Try.underlying3 HVW.out) ?_; intro w5 hown1 hgrow1; have HO5 := Lib.hid hown1; have HG5 : Hid (w2.grownBy w5 (some mb)) := ⟨hgrow1.os, hgrow1.tape, hgrow1.output, hgrow1.size, hgrow1.block⟩; clear hown1 hgrow1)) | (go_quiet (fail)))
          all_goals
            go_ret
            exact ⟨by rw [HE.out.1]; rfl, H2.out.put HD2.out HE.out.2 (by rw [HVV.out.1]; exact HVV.out.2) (by rw [HVV.out.1]; exact HO5.out) HG5.out, (HT2.out.mono (S' := At mb) fun _ h => h.elim).grown HG5.out (fun k hk => .inl (by injection hk with hk; exact hk.symm))⟩
    · have k2 : ((2 : Int) == 2) = true := by decide
      by_cases h0 : v0 = 0
      · have hTf : T = false := by cases T with | false => rfl | true => exact absurd h0 (HT.out.1 rfl)
        subst hTf
        have HE : Hid (R = 8 ∧ doE C K ⟨2, nmOf x, N⟩ ≠ 0) := by
          have h2 : doE C K ⟨2, nmOf x, N⟩ = 8 := by unfold doE; rw [if_neg (by rw [HC0.out]; simp), if_pos rfl]; simp only [HV.out.2.2]; rw [if_pos h0]
          rw [← HR.out, h2]; exact ⟨rfl, by decide⟩
        clear h0
        go_wp2_with (go_quiet (fail))
        all_goals
          go_ret
          exact ⟨by rw [HE.out.1]; rfl, (H2.out.nope (by repeat (first | exact Turn.refl _ _ | apply Turn.drewN | apply Turn.drew))).none HE.out.2, (HT2.out.trans (by repeat (first | exact Turn.refl _ _ | apply Turn.drewN | apply Turn.drew))).mono fun _ h => h.elim⟩
      · have hTt : T = true := HT.out.2 h0
        subst hTt
        by_cases h1 : v0 < N
        · have e1 : decide (v0 < N) = true := by simpa using h1
          have HE : Hid (R = 11 ∧ doE C K ⟨2, nmOf x, N⟩ ≠ 0) := by
            have h2 : doE C K ⟨2, nmOf x, N⟩ = 11 := by unfold doE; rw [if_neg (by rw [HC0.out]; simp), if_pos rfl]; simp only [HV.out.2.2]; rw [if_neg h0, if_pos h1]
            rw [← HR.out, h2]; exact ⟨rfl, by decide⟩
          clear h0 h1
          go_wp2_with (go_quiet (fail))
          all_goals
            go_ret
            exact ⟨by rw [HE.out.1]; rfl, (H2.out.nope (by repeat (first | exact Turn.refl _ _ | apply Turn.drewN | apply Turn.drew))).none HE.out.2, (HT2.out.trans (by repeat (first | exact Turn.refl _ _ | apply Turn.drewN | apply Turn.drew))).mono fun _ h => h.elim⟩
        · have e1 : decide (v0 < N) = false := by simpa using h1
          by_cases h2 : v0 = N
          · have e2 : (v0 == N) = true := by simpa using h2
            have HE : Hid (R = 0 ∧ doE C K ⟨2, nmOf x, N⟩ = 0) := by
              have h2 : doE C K ⟨2, nmOf x, N⟩ = 0 := by unfold doE; rw [if_neg (by rw [HC0.out]; simp), if_pos rfl]; simp only [HV.out.2.2]; rw [if_neg h0, if_neg h1]
              rw [← HR.out]; exact ⟨h2, h2⟩
            have HVN : Hid (C (nmOf x) = N) := by rw [HV.out.2.2]; exact h2
            clear h0 h1 h2
            go_wp2_with (first | (refine still_tail (id := 10) 6 (by kernel_rfl) (by kernel_rfl) ?_; simp only [List.take_succ_cons, List.take_zero, List.drop_succ_cons, List.drop_zero]; (repeat still_step); refine wpStill_nil ?_) | (at_delete; refine wpList_delete_own _ rfl _ _ 90 9 rfl 3 law9 Try.underlying90 (plainElem (H := Unit) Try.prog 3) mb n D rfl (show _ from HD2.out.own) _ _ rfl hkey ?_; intro w5 hown1 hturn1; have HO5 := Lib.hid hown1; have HG5 : Hid (w2.grownBy w5 (some mb)) := ⟨hturn1.grown.os, hturn1.grown.tape, hturn1.grown.output, hturn1.grown.size, hturn1.grown.block⟩; clear hown1 hturn1) | (go_quiet (fail)))
            all_goals
              go_ret
              exact ⟨by rw [HE.out.1]; rfl, H2.out.del HD2.out HE.out.2 rfl HVN.out HO5.out HG5.out, (HT2.out.mono (S' := At mb) fun _ h => h.elim).grown HG5.out (fun k hk => .inl (by injection hk with hk; exact hk.symm))⟩
          · have e2 : (v0 == N) = false := by simpa using h2
            have HE : Hid (R = 0 ∧ doE C K ⟨2, nmOf x, N⟩ = 0) := by
              have h2 : doE C K ⟨2, nmOf x, N⟩ = 0 := by unfold doE; rw [if_neg (by rw [HC0.out]; simp), if_pos rfl]; simp only [HV.out.2.2]; rw [if_neg h0, if_neg h1]
              rw [← HR.out]; exact ⟨h2, h2⟩
            obtain ⟨v, hv⟩ : ∃ v, v0 - N = v := ⟨_, rfl⟩
            have hvr : 1 ≤ v ∧ v ≤ 4398046511104 := by have := HV.out; have := HNB.out; omega
            have hw : wrap64 (v0 - N) = v := by rw [hv]; exact IntWalk.wrap64_in _ ⟨by omega, by omega⟩
            have hw' : IntKind.i64.wrap (v0 - N) = v := by rw [hv]; exact IntWalk.i64_in _ ⟨by omega, by omega⟩
            have HVV : Hid (newC C ⟨2, nmOf x, N⟩ (nmOf x) = v ∧ v ≠ 0) := ⟨by rw [← hv, ← HV.out.2.2]; exact newC_at (o := ⟨2, nmOf x, N⟩), by omega⟩
            have HVW := Lib.hid (wf_small (v := v) (by omega) (by omega))
            clear h0 h1 h2 hv
            go_wp2_with (first | (refine still_tail (id := 13) 10 (by kernel_rfl) (by kernel_rfl) ?_; simp only [List.take_succ_cons, List.take_zero, List.drop_succ_cons, List.drop_zero]; (repeat still_step); refine wpStill_nil ?_) | (at_mapUpdate; go_loud (refine wpList_mapUpdate_own _ rfl _ _ _ 90 rfl 9 3 law9 Try.underlying90 (plainElem (H := Unit) Try.prog 3) mb n D rfl (show _ from HD2.out.own) (by have := HN.out.1; show n < maxLen; unfold maxLen; omega) _ _ (.string (nmOf x)) rfl rfl hkey (.lit (.int .i64 v)) [] (plainElem_int Try.underlying3 HVW.out) ?_; intro w5 hown1 hgrow1; have HO5 := Lib.hid hown1; have HG5 : Hid (w2.grownBy w5 (some mb)) := ⟨hgrow1.os, hgrow1.tape, hgrow1.output, hgrow1.size, hgrow1.block⟩; clear hown1 hgrow1)) | (go_quiet (fail)))
            all_goals
              go_ret
              exact ⟨by rw [HE.out.1]; rfl, H2.out.put HD2.out HE.out.2 (by rw [HVV.out.1]; exact HVV.out.2) (by rw [HVV.out.1]; exact HO5.out) HG5.out, (HT2.out.mono (S' := At mb) fun _ h => h.elim).grown HG5.out (fun k hk => .inl (by injection hk with hk; exact hk.symm))⟩
  · have z0 : (c != 0) = true := by simpa using hc0
    have HE : Hid (R = c ∧ doE C K ⟨kd, nmOf x, N⟩ ≠ 0) := by
      have h1 : chk ⟨kd, nmOf x, N⟩ ≠ 0 := by rw [HC.out]; exact hc0
      have h2 := doE_chk (C := C) (K := K) h1
      rw [← HR.out, h2, HC.out]
      exact ⟨rfl, hc0⟩
    clear hc0
    go_wp2_with fail
    go_ret
    exact ⟨by rw [HE.out.1]; rfl, H1.out.none HE.out.2, HT1.out.mono fun _ h => h.elim⟩
end Go.Proofs.Yteggenihjhclkaa.Sk
set_option maxRecDepth 16000
set_option linter.unusedVariables false
set_option linter.unusedSimpArgs false
namespace Go.Proofs.Yteggenihjhclkaa.Sk
open Go.RowKit Go.Maps
variable {C : Nm → Int} {K : List Nm} {w0 w w' : World} {s mb n : Nat} {D : Dm} {o : Op3}
/-- One good's bytes. -/
def goodBs (C : Nm → Int) (x : Nm) : List Nat := num x.length ++ x.map UInt8.toNat ++ num (C x).toNat
def saveBs (C : Nm → Int) (L : List Nm) : List Nat := num L.length ++ L.flatMap (goodBs C)
/-- A shelf's bytes. -/
def savedS (C : Nm → Int) (K : List Nm) : ByteArray := bstr (saveBs C (srt K))
theorem good_lt (C : Nm → Int) (x : Nm) : ∀ y ∈ goodBs C x, y < 256 := by
  intro y hy
  unfold goodBs at hy
  rcases List.mem_append.1 hy with hy | hy
  · rcases List.mem_append.1 hy with hy | hy
    · exact num_lt _ y hy
    · obtain ⟨c, _, rfl⟩ := List.mem_map.1 hy
      exact c.toNat_lt
  · exact num_lt _ y hy
theorem save_lt (C : Nm → Int) (L : List Nm) : ∀ y ∈ saveBs C L, y < 256 := by
  intro y hy
  unfold saveBs at hy
  rcases List.mem_append.1 hy with hy | hy
  · exact num_lt _ y hy
  · obtain ⟨x, _, hx⟩ := List.mem_flatMap.1 hy
    exact good_lt C x y hx
theorem nb_arr (x : Nm) : nb ⟨x.toArray⟩ = x.map UInt8.toNat := by simp [nb]
theorem good_len {C : Nm → Int} {x : Nm} (hx : x.length ≤ 12) (hc : C x ≤ 1099511627776) : (goodBs C x).length ≤ 40 := by
  unfold goodBs
  have h1 := num_le x.length (by omega)
  have h2 := num_le (C x).toNat (by omega)
  simp only [List.length_append, List.length_map]
  omega
/-- In the middle of the goods. -/
structure SaveW (w0 w wr : World) (s mb n g i : Nat) (v : Value) (C : Nm → Int) (K L : List Nm) : Prop where
  wb : WrB wr w.heap.size g (num L.length ++ (L.take i).flatMap (goodBs C))
  tn : Turn Nope w wr
  row : wr.ownsRow w.heap.size 9 1 v L.length (encs L)
  len : (num L.length ++ (L.take i).flatMap (goodBs C)).length ≤ 10 + 40 * i
theorem own_kept2 {b e size m : Nat} {v : Value} {xs : List Value} (h : w.ownsRow b e size v m xs) (hk : Kept2 w w') (h5 : e ≠ 5) (h54 : e ≠ 114) : w'.ownsRow b e size v m xs := by
  refine ⟨h.1, ?_⟩
  rcases h.2 with hn | ⟨g, cap, cur, hv, hb, hh, rest⟩
  · exact .inl hn
  · exact .inr ⟨g, cap, cur, hv, hb, hk g cur e h5 h54 hh, rest⟩
theorem own_lower {b b' e size m : Nat} {v : Value} {xs : List Value} (h : w.ownsRow b e size v m xs) (hb : b' ≤ b) : w.ownsRow b' e size v m xs := by
  refine ⟨h.1, ?_⟩
  rcases h.2 with hn | ⟨g, cap, cur, hv, hg, rest⟩
  · exact .inl hn
  · exact .inr ⟨g, cap, cur, hv, Nat.le_trans hb hg, rest⟩
theorem u64_small {c : Int} (h0 : 0 ≤ c) (h1 : c ≤ 1099511627776) : IntKind.u64.wrap c = c := by
  unfold IntKind.wrap; simp [IntKind.bits, IntKind.signed]; omega
set_option maxHeartbeats 8000000 in
theorem save_any (h : Sh w0 w s mb n C K) : Calls Try.prog 109 #[.pointer (some ⟨s, 0, none⟩)] w fun e w' => e = .returned (.string (savedS C K)) ∧ Turn Nope w w' := by
  have H0 := Lib.hid h
  obtain ⟨D, hD⟩ := h.map
  have hlen : ∀ o, (Builtin.len_ #[90] 3 #[.map (some mb)]).run Try.prog (w.alloc o) = .ok (.int .i64 (K.length : Int)) (w.alloc o) := fun o => by
    rw [← hD.len]; exact (hD.turn ((Turn.refl Nope w).alloc o) fun h => h).own.len Try.underlying90 3
  have c0 := fun o => (h.nope ((Turn.refl _ _).alloc o)).cell
  have hu : IntKind.u64.wrap ((K.length : Nat) : Int) = (K.length : Int) := u64_small (by omega) (by have := h.good.le; omega)
  have HK := Lib.hid h.good.le
  clear h hD
  go_enter Try.func109, Try.ntmps109
  go_wp2_with fail
  clear hlen c0 hu
  obtain ⟨g, hg⟩ : ∃ g, w.heap.size = g := ⟨_, rfl⟩
  have HWR0 : Hid (WrB (w.alloc (.cells #[.slice none 0 0] 114)) w.heap.size g []) := by rw [← hg]; exact WrB.new w _ (Nat.le_refl _)
  rw [hg]
  clear hg
  refine (num_mine K.length (by have := HK.out; omega) _ HWR0.out (by simp)).mono ?_
  rintro e w1 ⟨rfl, hwr, hb, hk⟩
  have HW1 := Lib.hid (And.intro hwr (And.intro (Turn.toNope ((((Turn.refl Nope w).alloc _).nopeBelow).trans hb)) hk))
  clear hwr hb hk
  have H1 := Lib.hid (H0.out.nope HW1.out.2.1)
  go_wp2_with fail
  refine (names_any H1.out).mono ?_
  rintro e w2 ⟨v, rfl, hrow, ht⟩
  obtain ⟨L, hL⟩ : ∃ L, srt K = L := ⟨_, rfl⟩
  have HL : Hid (L.length = K.length ∧ L.length ≤ 16) := by rw [← hL, srt_length]; exact ⟨rfl, HK.out⟩
  have HLM : Hid (∀ x ∈ L, x.length ≤ 12) := fun x hx => (H0.out.good.nm x ((srt_mem K x).1 (by rw [hL]; exact hx))).2
  have HSV : Hid (savedS C K = bstr (saveBs C L)) := by show savedS C K = _; unfold savedS; rw [hL]
  rw [hL] at hrow
  obtain ⟨A, cp, rfl, _⟩ := own_slice hrow
  have HW2 : Hid (SaveW w0 w w2 s mb n g 0 (.slice A L.length cp) C K L) := by
    refine ⟨?_, HW1.out.2.1.trans ht, own_lower hrow HW1.out.2.1.size, ?_⟩
    · have h1 := HW1.out.1.nope ht
      rw [List.nil_append, ← HL.out.1] at h1
      simpa using h1
    · have := num_le L.length (by have := HL.out.2; omega)
      simpa using this
  clear hrow ht hL
  go_wp2_with fail
  go_loopg [16] L.length (fun kk v16 wr => ∃ (i : Nat), v16 = .int .i64 (i : Int) ∧ Hid (kk + i = L.length) ∧ Hid (SaveW w0 w wr s mb n g i (.slice A L.length cp) C K L))
  case atStart => exact ⟨0, rfl, rfl, HW2.out⟩
  case round =>
    obtain ⟨i, rfl, hk, hW⟩ := hrel
    clear HW2
    by_cases hlt : i < L.length
    · have b1 : decide ((i : Int) < (L.length : Int)) = true := by simp; omega
      have b1n : decide (i < L.length) = true := by simp; omega
      have i0 : (0 : Int) ≤ (i : Int) := by omega
      have i1 : (i : Int) < (L.length : Int) := by omega
      have hw : wrap64 ((i : Int) + 1) = (i : Int) + 1 := IntWalk.wrap64_in _ ⟨by omega, by have := HL.out.2; omega⟩
      have HWR := Lib.hid hw
      have HLT := Lib.hid hlt
      obtain ⟨x, hx⟩ : ∃ x, L[i]? = some x := ⟨_, List.getElem?_eq_getElem hlt⟩
      obtain ⟨gr, c, ev, -⟩ := World.ownsRow.form hW.out.row (by omega)
      injection ev with ev1 ev2 ev3
      subst ev1
      clear ev2 ev3
      have c0 : (wr.cell? ⟨gr, i, none⟩) = some (.string ⟨x.toArray⟩) := own_elem hW.out.row i (u := encStr x) (by simp [encs, hx])
      have HXI := Lib.hid hx
      have HX : Hid ((0 ≤ C x ∧ C x ≤ 1099511627776) ∧ x.length ≤ 12) := ⟨⟨H0.out.good.lo x, H0.out.good.hi x⟩, HLM.out x (List.mem_of_getElem? hx)⟩
      obtain ⟨cn, hcn⟩ : ∃ cn : Nat, C x = (cn : Int) := ⟨(C x).toNat, by have := HX.out.1.1; omega⟩
      have HCN : Hid (C x = (cn : Int) ∧ (C x).toNat = cn ∧ cn ≤ 1099511627776) := by have := HX.out.1.2; exact ⟨hcn, by omega, by omega⟩
      have hu : IntKind.u64.wrap (cn : Int) = (cn : Int) := u64_small (by omega) (by have := HCN.out.2.2; omega)
      have FL : Hid (∀ W, Turn Nope w W → (Instr.lookup 90 (.map (some mb)) (.string ⟨x.toArray⟩) false).run Try.prog W = .ok (.int .i64 (cn : Int)) W) := fun W h => by
        rw [← HCN.out.1]
        obtain ⟨D, hD⟩ := (H0.out.nope h).map
        have := hD.look1 (x := ⟨x.toArray⟩) (by show x.toArray.size ≤ maxLen; have := HX.out.2; simp; unfold maxLen; omega)
        simpa using this
      clear hw hlt hx hcn
      go_upto_region 6 with (fail)
      clear c0 i0 i1 b1 b1n
      refine wp_region_held_drew (S := fun W => W.cell? ⟨s, 0, none⟩ = some (.map (some mb)) ∧ (Instr.lookup 90 (.map (some mb)) (.string ⟨x.toArray⟩) false).run Try.prog W = .ok (.int .i64 (cn : Int)) W) (by kernel_rfl) ⟨(H0.out.nope (hW.out.tn.trans (Turn.refl _ _).drew)).cell, FL.out _ (hW.out.tn.trans (Turn.refl _ _).drew)⟩ (fun hHeld => ?_)
      refine' wpAnyH_take (i := 0) (v := _) (by simp only [List.getElem?_toArray, List.getElem?_cons_succ, List.getElem?_cons_zero]; rfl) (by kernel_rfl) (by kernel_rfl) (by kernel_rfl) (by intro _ _ _ h; exact h) (Or.inl ⟨by rfl, ?hyv60⟩) hHeld ?restv60
      case hyv60 => (intro w hSw; (try dsimp only at hSw); go_simp; try (with_reducible rfl))
      simp only [Act.put, List.setIfInBounds_toArray, List.set_cons_zero, List.set_cons_succ]
      refine' wpAnyH_take (i := 2) (v := _) (by simp only [List.getElem?_toArray, List.getElem?_cons_succ, List.getElem?_cons_zero]; rfl) (by kernel_rfl) (by kernel_rfl) (by kernel_rfl) (by intro _ _ _ h; exact h) (Or.inl ⟨by rfl, ?hyv62⟩) hHeld ?restv62
      case hyv62 => (intro w hSw; (try dsimp only at hSw); go_simp; try (with_reducible rfl))
      simp only [Act.put, List.setIfInBounds_toArray, List.set_cons_zero, List.set_cons_succ]
      refine' wpAnyH_take (i := 3) (v := _) (by simp only [List.getElem?_toArray, List.getElem?_cons_succ, List.getElem?_cons_zero]; rfl) (by kernel_rfl) (by kernel_rfl) (by kernel_rfl) (by intro _ _ _ h; exact h) (Or.inl ⟨by rfl, ?hyv63⟩) hHeld ?restv63
      case hyv63 => (intro w hSw; (try dsimp only at hSw); go_simp; try (with_reducible rfl))
      simp only [Act.put, List.setIfInBounds_toArray, List.set_cons_zero, List.set_cons_succ]
      refine' wpAnyH_take (i := 4) (v := _) (by simp only [List.getElem?_toArray, List.getElem?_cons_succ, List.getElem?_cons_zero]; rfl) (by kernel_rfl) (by kernel_rfl) (by kernel_rfl) (by intro _ _ _ h; exact h) (Or.inl ⟨by rfl, ?hyv64⟩) hHeld ?restv64
      case hyv64 => (intro w hSw; (try dsimp only at hSw); go_simp; try (with_reducible rfl))
      simp only [Act.put, List.setIfInBounds_toArray, List.set_cons_zero, List.set_cons_succ]
      refine' wpAnyH_take (i := 5) (v := _) (by simp only [List.getElem?_toArray, List.getElem?_cons_succ, List.getElem?_cons_zero]; rfl) (by kernel_rfl) (by kernel_rfl) (by kernel_rfl) (by intro _ _ _ h; exact h) (Or.inl ⟨by rfl, ?hyv65⟩) hHeld ?restv65
      case hyv65 => (intro w hSw; (try dsimp only at hSw); go_simp; try (with_reducible rfl))
      simp only [Act.put, List.setIfInBounds_toArray, List.set_cons_zero, List.set_cons_succ]
      refine' wpAnyH_take (i := 6) (v := _) (by simp only [List.getElem?_toArray, List.getElem?_cons_succ, List.getElem?_cons_zero]; rfl) (by kernel_rfl) (by kernel_rfl) (by kernel_rfl) (by intro _ _ _ h; exact h) (Or.inl ⟨by rfl, ?hyv66⟩) hHeld ?restv66
      case hyv66 => (intro w hSw; (try dsimp only at hSw); go_simp; try (with_reducible rfl))
      simp only [Act.put, List.setIfInBounds_toArray, List.set_cons_zero, List.set_cons_succ]
      refine' wpAnyH_take (i := 7) (v := _) (by simp only [List.getElem?_toArray, List.getElem?_cons_succ, List.getElem?_cons_zero]; rfl) (by kernel_rfl) (by kernel_rfl) (by kernel_rfl) (by intro _ _ _ h; exact h) (Or.inl ⟨by rfl, ?hyv67⟩) hHeld ?restv67
      case hyv67 => (intro w hSw; (try dsimp only at hSw); go_simp; try (with_reducible rfl))
      simp only [Act.put, List.setIfInBounds_toArray, List.set_cons_zero, List.set_cons_succ]
      refine' wpAnyH_take (i := 8) (v := _) (by simp only [List.getElem?_toArray, List.getElem?_cons_succ, List.getElem?_cons_zero]; rfl) (by kernel_rfl) (by kernel_rfl) (by kernel_rfl) (by intro _ _ _ h; exact h) (Or.inl ⟨by rfl, ?hyv68⟩) hHeld ?restv68
      case hyv68 => (intro w hSw; (try dsimp only at hSw); go_simp; try (with_reducible rfl))
      simp only [Act.put, List.setIfInBounds_toArray, List.set_cons_zero, List.set_cons_succ]
      refine wpAnyH_ready (rs := [1]) (by kernel_rfl) (by simp) (AllReadyH.cons (by simp only [List.getElem?_toArray, List.getElem?_cons_succ, List.getElem?_cons_zero]; rfl) (fun KK hKK => ?_) AllReadyH.nil)
      go_simp
      refine (str_mine ⟨x.toArray⟩ (by have := HX.out.2; simp [ByteArray.size]; omega) _ (hW.out.wb.nope (Turn.refl _ _).drew) (by have := hW.out.len; have := HL.out.2; have := HLT.out; omega)).mono ?_
      rintro e w4 ⟨rfl, hwr, hb, hk⟩
      have HW4 := Lib.hid (And.intro hwr (And.intro hb hk))
      clear hwr hb hk
      have H4 : Hid (Sh w0 w4 s mb n C K ∧ Turn Nope w w4) := by
        have ht : Turn Nope w w4 := Turn.toNope ((hW.out.tn.trans (Turn.refl _ _).drew).nopeBelow.trans HW4.out.2.1)
        exact ⟨H0.out.nope ht, ht⟩
      try go_wp2_with fail
      refine hKK.out _ _ ?_ (fun hHeld => ?_)
      · exact ⟨H4.out.1.cell, FL.out _ H4.out.2⟩
      clear hKK KK
      try simp only [Act.put, List.setIfInBounds_toArray, List.set_cons_zero, List.set_cons_succ]
      refine wpAnyH_ready (rs := [9]) (by kernel_rfl) (by simp) (AllReadyH.cons (by simp only [List.getElem?_toArray, List.getElem?_cons_succ, List.getElem?_cons_zero]; rfl) (fun KK hKK => ?_) AllReadyH.nil)
      go_simp
      refine (num_mine cn (by have := HCN.out.2.2; omega) _ HW4.out.1 (by have h1 := hW.out.len; have := HL.out.2; have := HLT.out; have := HX.out.2; have h2 := num_le x.length (by omega); simp only [List.length_append, nb_arr, List.length_map] at h1 ⊢; rw [show ByteArray.size ⟨x.toArray⟩ = x.length by simp [ByteArray.size]]; omega)).mono ?_
      rintro e w5 ⟨rfl, hwr, hb, hk⟩
      have HW5 := Lib.hid (And.intro hwr (And.intro hb hk))
      clear hwr hb hk
      have H5 : Hid (Sh w0 w5 s mb n C K ∧ Turn Nope w w5) := by
        have ht : Turn Nope w w5 := Turn.toNope (H4.out.2.nopeBelow.trans HW5.out.2.1)
        exact ⟨H0.out.nope ht, ht⟩
      try go_wp2_with fail
      refine hKK.out _ _ ?_ (fun hHeld => ?_)
      · exact ⟨H5.out.1.cell, FL.out _ H5.out.2⟩
      clear hKK KK
      try simp only [Act.put, List.setIfInBounds_toArray, List.set_cons_zero, List.set_cons_succ]
      refine wpAnyH_done (by kernel_rfl) ?_ _
      clear hHeld
      have HP : Hid (SaveW w0 w w5 s mb n g (i + 1) (.slice (some ⟨gr, 0, none⟩) L.length cp) C K L) := by
        have hbs : (num L.length ++ (L.take i).flatMap (goodBs C)) ++ (num (ByteArray.size ⟨x.toArray⟩) ++ nb ⟨x.toArray⟩) ++ num cn = num L.length ++ (L.take (i + 1)).flatMap (goodBs C) := by
          rw [List.take_add_one, HXI.out, List.flatMap_append, nb_arr]
          simp [goodBs, ByteArray.size, HCN.out.2.1]
        have h1 := HW5.out.1
        rw [hbs] at h1
        refine ⟨h1, H5.out.2, ?_, ?_⟩
        · have h2 := own_kept2 (own_nope hW.out.row (Turn.refl Nope wr).drew) HW4.out.2.2 (by decide) (by decide)
          exact own_kept2 h2 HW5.out.2.2 (by decide) (by decide)
        · rw [← hbs]
          have h3 := good_len (C := C) (x := x) HX.out.2 HX.out.1.2
          have h4 := hW.out.len
          unfold goodBs at h3
          rw [HCN.out.2.1] at h3
          simp only [List.length_append, nb_arr, List.length_map] at h3 h4 ⊢
          have h5 : ByteArray.size ⟨x.toArray⟩ = x.length := by simp [ByteArray.size]
          rw [h5]
          omega
      clear hu
      go_wp2_with fail
      have hw := HWR.out
      go_wp2_with fail
      go_roundg (L.length - (i + 1))
      case measure => have := hk.out; have := HLT.out; omega
      case rel => exact ⟨i + 1, by go_num, by have := hk.out; have := HLT.out; show _ = _; omega, HP.out⟩
    · have b1 : decide ((i : Int) < (L.length : Int)) = false := by simp; omega
      have b1n : decide (i < L.length) = false := by simp; omega
      have HTK : Hid (L.take i = L) := List.take_of_length_le (by omega)
      clear hlt
      go_wp2_with fail
      have h1 := hW.out.wb
      rw [HTK.out] at h1
      have h2 : WrB wr w.heap.size g (nb (bstr (saveBs C L))) := by rw [nb_bstr _ (save_lt C L)]; exact h1
      refine (text_mine _ _ h2).mono ?_
      rintro e w6 ⟨rfl, rfl⟩
      go_wp2_with fail
      go_ret
      exact ⟨by rw [HSV.out]; rfl, hW.out.tn⟩
end Go.Proofs.Yteggenihjhclkaa.Sk
set_option maxRecDepth 16000
set_option linter.unusedVariables false
set_option linter.unusedSimpArgs false
namespace Go.Proofs.Yteggenihjhclkaa.Sk
open Go.RowKit Go.ChangeShapes Go.WideShapes Go.Deep Go.Maps
def cutP (s : ByteArray) (n : Nat) : ByteArray := if n < s.size then s.extract 0 n else s
theorem cutP_size (s : ByteArray) (n : Nat) : (cutP s n).size ≤ n := by
  unfold cutP
  split
  · rw [ByteArray.size_extract]; omega
  · omega
set_option maxHeartbeats 4000000 in
theorem cut_any (s : ByteArray) (n : Nat) (hn : n ≤ 1000000) (w : World) : Calls Try.prog 33 #[.string s, .int .i64 n] w fun e w' => e = .returned (.string (cutP s n)) ∧ w' = w := by
  go_enter Try.func33, Try.ntmps33
  by_cases h : n < s.size
  · have b1 : decide ((n : Int) < (s.size : Int)) = true := by simp; omega
    have b1n : decide (n < s.size) = true := by simp; omega
    have h0 : (0 : Int) ≤ (n : Int) := by omega
    have h1 : (n : Int) ≤ (s.size : Int) := by omega
    have h2 : n ≤ s.size := by omega
    go_wp2_with fail
    go_ret
    exact ⟨by unfold cutP; rw [if_pos h]; rfl, rfl⟩
  · have b1 : decide ((n : Int) < (s.size : Int)) = false := by simp; omega
    have b1n : decide (n < s.size) = false := by simp; omega
    go_wp2_with fail
    go_ret
    exact ⟨by unfold cutP; rw [if_neg h]; rfl, rfl⟩
theorem few_any (k : Int) (S : ByteArray) (n : Int) (w : World) :
    Calls Try.prog 18 #[.agg #[.int .i64 k, .string S, .int .i64 n]] w fun e w' => e = .returned (.agg #[.int .i64 k, .string (cutP S 14), .int .i64 n]) ∧ Turn Nope w w' := by
  go_enter Try.func18, Try.ntmps18
  go_wp2_with (first | (go_at_call 33; refine (cut_any _ 14 (by omega) _).mono ?_; rintro e w1 ⟨rfl, rfl⟩))
  exact bodyPost_ret (v := .agg #[.int .i64 k, .string (cutP S 14), .int .i64 n]) (by simp [results, Try.results18, go_sem]) rfl ⟨rfl, ((Turn.refl _ _).alloc _).alloc _⟩
theorem inv_any (k : Int) (hk : k = 1 ∨ k = 2) (S : ByteArray) (n : Int) (w : World) :
    Calls Try.prog 32 #[.agg #[.int .i64 k, .string S, .int .i64 n]] w fun e w' => e = .returned (.agg #[.int .i64 (3 - k), .string S, .int .i64 n]) ∧ Turn Nope w w' := by
  rcases hk with rfl | rfl
  · go_enter Try.func32, Try.ntmps32
    go_wp2
    exact bodyPost_ret (v := .agg #[.int .i64 2, .string S, .int .i64 n]) (by simp [results, Try.results32, go_sem]) rfl ⟨rfl, ((Turn.refl _ _).alloc _).alloc _⟩
  · go_enter Try.func32, Try.ntmps32
    go_wp2
    exact bodyPost_ret (v := .agg #[.int .i64 1, .string S, .int .i64 n]) (by simp [results, Try.results32, go_sem]) rfl ⟨rfl, ((Turn.refl _ _).alloc _).alloc _⟩
def OpsIn (w : World) (a : Option Addr) (len : Nat) : Prop := len ≤ maxLen ∧ ∀ i, i < len → ∃ (ad : Addr) (k : Int) (S : ByteArray) (n : Int), a = some ad ∧ S.size ≤ maxLen ∧
  w.cell? (ad.add (i * 3)) = some (.int .i64 k) ∧ w.cell? ⟨(ad.add (i * 3)).block, (ad.add (i * 3)).off + 1, none⟩ = some (.string S) ∧
  w.cell? ⟨(ad.add (i * 3)).block, (ad.add (i * 3)).off + 2, none⟩ = some (.int .i64 n)
theorem OpsIn.later {w w' : World} {a : Option Addr} {len : Nat} (h : OpsIn w a len) (hb : Below w.heap.size w w') : OpsIn w' a len :=
  ⟨h.1, fun i hi => by
    obtain ⟨ad, k, S, n, e, hS, c0, c1, c2⟩ := h.2 i hi
    exact ⟨ad, k, S, n, e, hS, cell_later hb c0, cell_later hb c1, cell_later hb c2⟩⟩
variable {C : Nm → Int} {K : List Nm} {w0 w w' : World} {s mb n : Nat} {o : Op3}
theorem same_len {L K : List Nm} (hL : L.Nodup) (hK : K.Nodup) (h : ∀ x, x ∈ L ↔ x ∈ K) : L.Perm K :=
  List.perm_iff_count.2 fun x => by
    rw [hL.count, hK.count]
    by_cases hx : x ∈ L
    · rw [if_pos hx, if_pos ((h x).1 hx)]
    · rw [if_neg hx, if_neg fun e => hx ((h x).2 e)]
theorem Good.perm {K' : List Nm} (h : Good C K) (h' : Good C K') : K.Perm K' := same_len h.nd h'.nd fun x => by rw [h.mem, h'.mem]
theorem saved_same {K' : List Nm} (h : Good C K) (h' : Good C K') : savedS C K = savedS C K' := by
  unfold savedS
  rw [srt_perm (h.perm h')]
def inv (o : Op3) : Op3 := ⟨3 - o.k, o.nm, o.N⟩
/-- BACK. -/
theorem inv_back (h : Good C K) (hd : doE C K o = 0) : ∀ K', Good (newC C o) K' → doE (newC C o) K' (inv o) = 0 ∧ newC (newC C o) (inv o) = C := by
  intro K' hg
  obtain ⟨hk, h1, h2, h3, h4, ht, ha⟩ := doE_ok hd
  have hlen := (hg.perm (h.put hd)).length_eq
  have hlo := h.lo o.nm
  have hhi := h.hi o.nm
  have hc : chk (inv o) = 0 := by
    unfold chk inv
    rw [if_neg (by show ¬ (3 - o.k ≠ 1 ∧ 3 - o.k ≠ 2); omega), if_neg (fun e => by
      rcases e with e | e | e | e
      · exact h1 e
      · have e : 12 < o.nm.length := e; omega
      · have e : o.N < 1 := e; omega
      · have e : 1099511627776 < o.N := e; omega)]
  have hat : newC C o o.nm = if o.k = 2 then C o.nm - o.N else C o.nm + o.N := newC_at
  constructor
  · unfold doE
    rw [if_neg (by rw [hc]; decide)]
    by_cases hk2 : o.k = 2
    · have ht := ht hk2
      rw [if_pos hk2] at hat
      have e1 : ¬ (inv o).k = 2 := by show ¬ 3 - o.k = 2; omega
      rw [if_neg e1]
      have e2 : ¬ (newC C o (inv o).nm = 0 ∧ 16 ≤ K'.length) := by
        rintro ⟨e3, e4⟩
        have e3 : newC C o o.nm = 0 := e3
        rw [hat] at e3
        have hK : newK C K o = K.erase o.nm := by unfold newK; rw [if_pos hk2, if_pos (by omega)]
        rw [hK, List.length_erase_of_mem ((h.mem _).2 ht.1)] at hlen
        have := h.le
        have hp : 0 < K.length := List.length_pos_of_mem ((h.mem _).2 ht.1)
        omega
      rw [if_neg e2, if_neg]
      show ¬ 1099511627776 < newC C o o.nm + o.N
      rw [hat]; omega
    · rw [if_neg hk2] at hat
      have e1 : (inv o).k = 2 := by show 3 - o.k = 2; omega
      rw [if_pos e1, if_neg (by show ¬ newC C o o.nm = 0; rw [hat]; omega), if_neg (by show ¬ newC C o o.nm < o.N; rw [hat]; omega)]
  · funext y
    by_cases hy : y = o.nm
    · subst hy
      rw [show newC (newC C o) (inv o) o.nm = if (inv o).k = 2 then newC C o o.nm - o.N else newC C o o.nm + o.N from newC_at (o := inv o), hat]
      by_cases hk2 : o.k = 2
      · rw [if_pos hk2, if_neg (by show ¬ 3 - o.k = 2; omega)]; omega
      · rw [if_neg hk2, if_pos (by show 3 - o.k = 2; omega)]; omega
    · rw [newC_far (o := inv o) hy, newC_far hy]
theorem arr_nm (x : ByteArray) : (⟨(nmOf x).toArray⟩ : ByteArray) = x := by unfold nmOf; simp
end Go.Proofs.Yteggenihjhclkaa.Sk
set_option maxRecDepth 16000
set_option linter.unusedVariables false
set_option linter.unusedSimpArgs false
namespace Go.Proofs.Yteggenihjhclkaa.Sk
open Go.RowKit Go.Maps PWire Go.Proofs.YteggenihjhclkaaW.PrintWords
open Go.ChangeMaps (setBlock heap_setBlock_same heap_setBlock_other)
variable {C : Nm → Int} {K L : List Nm} {w0 w w' : World} {s mb n : Nat} {D : Dm} {o : Op3}
theorem rd_turn {g : Nat} (h1 : Below w0.heap.size w0 w) (h2 : Below w0.heap.size w0 w') (k : KeepBut w w' g none) : Turn (At g) w w' :=
  ⟨h2.os.trans h1.os.symm, h2.tape.trans h1.tape.symm, h2.output.trans h1.output.symm, k.1, fun i hi hn => k.2 i hi hn (by simp)⟩
theorem setBlock_twice (w : World) (b : Nat) (o1 o2 : Obj) : setBlock (setBlock w b o1) b o2 = setBlock w b o2 := by
  unfold setBlock
  simp [Array.setIfInBounds_setIfInBounds]
theorem CntM.entry (h : CntM w mb n D C K) {x : ByteArray} (hx : x.size ≤ maxLen) (hn : n < maxLen) {v : Int} (hv : (Lit.int .i64 v).wf = true) :
    ∃ (v0 : Value) (st : Int) (w1 w2 : World), (Instr.mapEntry 90 (.map (some mb)) (.string x)).run Try.prog w = .ok (.tuple #[v0, .int .i64 st]) w1 ∧ (Instr.entryStore 90 (.map (some mb)) (.int .i64 st) (.int .i64 v)).run Try.prog w1 = .ok () w2 ∧
      w2.ownsMap Try.prog 9 (plainElem (H := Unit) Try.prog 3) mb (n + 1) (D.put (.string (nmOf x)) (.lit (.int .i64 v))) ∧ w.grownBy w2 (some mb) ∧ w.grownBy w1 (some mb) := by
  obtain ⟨es, clock, hb, F, hs, hD⟩ := h.own
  have hkey : keyOf Try.prog 9 (.string x) = some (.string (nmOf x)) := Go.WideMaps.keyOf_string_mk Try.underlying9 hx
  obtain ⟨v0, st, es1, clock1, h1, _, h2⟩ := Go.WideElems.entry_then_store (Go.WideMaps.string_law Try.underlying9) Try.underlying90 (fun u => zero3 u) hb F hkey
  obtain ⟨es', clock', h3, h4⟩ := h2 (setBlock w mb (.map es1 clock1)) (.int .i64 v) (heap_setBlock_same hb _)
  obtain ⟨w2, h5, h6, h7⟩ := h.own.update law9 Try.underlying90 hn hkey (val := .int .i64 v) (plainElem_int Try.underlying3 hv)
  rw [h4] at h5
  injection h5 with _ h5
  rw [setBlock_twice, h5] at h3
  refine ⟨v0, (st : Int), _, w2, h1, h3, h6, h7, ⟨rfl, rfl, rfl, by simp [setBlock], fun i _ hi => heap_setBlock_other hb _ (fun e => hi (by rw [e]))⟩⟩
/-- A shelf's goods, those among the first i names. -/
def cutC (C : Nm → Int) (L : List Nm) (i : Nat) : Nm → Int := fun x => if x ∈ L.take i then C x else 0
theorem cut_good (h : Good C K) (hL : L.Nodup) (hm : ∀ x, x ∈ L ↔ x ∈ K) (hl : L.length ≤ 16) (i : Nat) : Good (cutC C L i) (L.take i).reverse := by
  have hin : ∀ x, x ∈ L.take i → x ∈ K := fun x hx => (hm x).1 (List.mem_of_mem_take hx)
  refine ⟨List.pairwise_reverse.2 ((hL.sublist (List.take_sublist _ _)).imp fun {a b} h e => h e.symm), fun x => ?_, fun x => ?_, fun x => ?_, fun x hx => h.nm x (hin x (List.mem_reverse.1 hx)), by rw [List.length_reverse, List.length_take]; omega⟩
  · rw [List.mem_reverse]
    unfold cutC
    split
    · rename_i hx; exact ⟨fun _ => (h.mem x).1 (hin x hx), fun _ => hx⟩
    · rename_i hx; exact ⟨fun e => absurd e hx, fun e => absurd rfl e⟩
  · unfold cutC; split; exact h.lo x; exact Int.le_refl _
  · unfold cutC; split; exact h.hi x; decide
theorem cut_all (h : Good C K) (hm : ∀ x, x ∈ L ↔ x ∈ K) {i : Nat} (hi : L.length ≤ i) : cutC C L i = C := by
  funext x
  unfold cutC
  rw [List.take_of_length_le hi]
  split
  · rfl
  · rename_i hx
    by_cases h0 : C x = 0
    · exact h0.symm
    · exact absurd ((hm x).2 ((h.mem x).2 h0)) hx
theorem good_len2 {C : Nm → Int} {x : Nm} (hx : x.length ≤ 12) (hc : C x ≤ 1099511627776) : (goodBs C x).length ≤ 32 := by
  unfold goodBs
  have h1 := num_le x.length (by omega)
  have h2 := num_le (C x).toNat (by omega)
  simp only [List.length_append, List.length_map]
  omega
theorem goods_len (h : Good C K) : ∀ M : List Nm, (∀ x ∈ M, x.length ≤ 12) → (M.flatMap (goodBs C)).length ≤ 32 * M.length
  | [], _ => by simp
  | x :: M, hM => by
    have h1 := good_len2 (C := C) (hM x List.mem_cons_self) (h.hi x)
    have h2 := goods_len h M fun y hy => hM y (List.mem_cons_of_mem _ hy)
    rw [List.flatMap_cons, List.length_append, List.length_cons]; omega
/-- In the middle of the goods. -/
structure LoadW (w wr : World) (s mb g i : Nat) (L : List Nm) (C : Nm → Int) (r : ByteArray) : Prop where
  sh : Sh w wr s mb i (cutC C L i) (L.take i).reverse
  rd : IsS134 w wr g r 0
  nbr : nb r = (L.drop i).flatMap (goodBs C)
  bl : Below w.heap.size w wr
  ne : g ≠ s ∧ g ≠ mb
theorem LoadW.read {wr w2 : World} {g i : Nat} {r r2 : ByteArray} (h : LoadW w wr s mb g i L C r) (hi : IsS134 w w2 g r2 0) (hb : Below w.heap.size w w2) (hk : KeepBut wr w2 g none) : Sh w w2 s mb i (cutC C L i) (L.take i).reverse :=
  h.sh.turn (rd_turn h.bl hb hk) (fun e => h.ne.1 (show s = g from e).symm) (fun e => h.ne.2 (show mb = g from e).symm)
theorem srt_lt (h : K.Nodup) : (srt K).Pairwise (fun x y => ¬ y ≤ x) := by
  have tr : ∀ a b c : Nm, leB a b = true → leB b c = true → leB a c = true := fun a b c h1 h2 => by simp only [leB, decide_eq_true_eq] at *; exact List.le_trans h1 h2
  have tot : ∀ a b : Nm, (leB a b || leB b a) = true := fun a b => by simp only [leB, Bool.or_eq_true, decide_eq_true_eq]; exact List.le_total a b
  have h1 : (srt K).Pairwise (fun a b => leB a b = true) := List.pairwise_mergeSort tr tot K
  have h2 : (srt K).Nodup := (List.mergeSort_perm K _).nodup_iff.2 h
  refine (h1.and h2).imp fun {a b} hab hba => ?_
  have h3 := hab.1
  simp only [leB, decide_eq_true_eq] at h3
  exact hab.2 (List.le_antisymm h3 hba)
set_option maxHeartbeats 8000000 in
theorem load_any (w : World) (hG : Good C K) : Calls Try.prog 67 #[.string (savedS C K)] w fun e w' => ∃ s mb n K', e = .returned (.tuple #[.pointer (some ⟨s, 0, none⟩), .int .i64 0]) ∧ Sh w w' s mb n C K' ∧ n ≤ 16 ∧ w.heap.size ≤ s ∧ w.heap.size ≤ mb ∧ Turn Nope w w' := by
  have HG := Lib.hid hG
  obtain ⟨L, hL⟩ : ∃ L, srt K = L := ⟨_, rfl⟩
  have HL : Hid (L.length ≤ 16 ∧ L.Nodup ∧ (∀ x, x ∈ L ↔ x ∈ K) ∧ (∀ x ∈ L, x.length ≤ 12 ∧ x ≠ []) ∧ L.Pairwise (fun x y => ¬ y ≤ x)) := by
    rw [← hL]
    exact ⟨by rw [srt_length]; exact hG.le, (List.mergeSort_perm K _).nodup_iff.2 hG.nd, srt_mem K, fun x hx => by have := hG.nm x ((srt_mem K x).1 hx); exact ⟨this.2, this.1⟩, srt_lt hG.nd⟩
  have hsv : savedS C K = bstr (saveBs C L) := by unfold savedS; rw [hL]
  rw [hsv]
  have hnb : nb (bstr (saveBs C L)) = num L.length ++ L.flatMap (goodBs C) := nb_bstr _ (save_lt C L)
  obtain ⟨t0, ht0⟩ : ∃ t0, bstr (saveBs C L) = t0 := ⟨_, rfl⟩
  rw [ht0] at hnb ⊢
  have hgl := goods_len hG L fun x hx => (HL.out.2.2.2.1 x hx).1
  have hz : t0.size ≤ 600 := by
    have h1 := num_le L.length (by have := HL.out.1; omega)
    have h2 := HL.out.1
    rw [← nb_length, hnb, List.length_append]
    omega
  obtain ⟨r0, hf, hr⟩ := uptoS L.length 16 (by have := HL.out.1; omega) (by decide) t0 _ hnb hz
  have HF := Lib.hid (And.intro hf hr)
  have HB0 := Lib.hid (Below.refl w.heap.size w)
  clear hG hL hsv hnb hz hf hr hgl ht0
  go_enter Try.func67, Try.ntmps67
  go_wp2_with fail
  refine (wire_Read.calls t0 t0 0 w _ HB0.out rfl).mono ?_
  rintro e w2 ⟨g, rfl, hi, hb, -⟩
  have HI2 := Lib.hid hi
  have HB2 := Lib.hid hb
  clear hi hb
  go_wp2_with fail
  refine (new_any w w2 (Turn.toNope HB2.out)).mono ?_
  rintro e w3 ⟨s, mb, rfl, hs, h1, h2, ht⟩
  have HS3 := Lib.hid hs
  have HNE : Hid (g ≠ s ∧ g ≠ mb) := by have := blk_lt HI2.out.1; exact ⟨by omega, by omega⟩
  have HLO : Hid (w.heap.size ≤ s ∧ w.heap.size ≤ mb) := ⟨hs.los, hs.lom⟩
  have HI3 : Hid (IsS134 w w3 g t0 0) := ⟨ht.blk HI2.out.1 fun h => h, HI2.out.2⟩
  have HB3 := Lib.hid (HB2.out.trans ((ht.nopeBelow).mono HB2.out.size))
  clear hs h1 h2 ht HI2 HB2
  go_wp2_with fail
  refine (wire_Reader_Upto.calls 2000 g t0 0 16 _ r0 0 w _ HI3.out HB3.out HF.out.1).mono ?_
  rintro e w4 ⟨rfl, hi, hb, hk⟩
  have HW0 : Hid (LoadW w w4 s mb g 0 L C r0) := by
    have h1 := HS3.out.turn (rd_turn HB3.out hb hk) (fun e => HNE.out.1 (show s = g from e).symm) (fun e => HNE.out.2 (show mb = g from e).symm)
    refine ⟨?_, hi, HF.out.2, hb, HNE.out⟩
    have e1 : cutC C L 0 = fun _ => 0 := by funext x; simp [cutC]
    rw [e1]
    exact h1
  clear hi hb hk HS3 HI3 HB3 HF
  go_wp2_with fail
  go_loopg [6, 7] L.length (fun kk v6 v7 wr => ∃ (i : Nat) (r : ByteArray) (lst : Nm), v7 = .int .i64 (kk : Int) ∧ v6 = .string ⟨lst.toArray⟩ ∧ Hid (kk + i = L.length ∧ ∀ x, L[i]? = some x → ¬ x ≤ lst) ∧ Hid (LoadW w wr s mb g i L C r))
  case atStart => exact ⟨0, r0, [], rfl, rfl, ⟨rfl, fun x hx e => (HL.out.2.2.2.1 x (List.mem_of_getElem? hx)).2 (List.le_nil.1 e)⟩, HW0.out⟩
  case round =>
    obtain ⟨i, r, lst, rfl, rfl, hk, hW⟩ := hrel
    clear HW0
    by_cases hlt : i < L.length
    · obtain ⟨m, rfl⟩ : ∃ m, gk = m + 1 := ⟨gk - 1, by have := hk.out.1; omega⟩
      have hkk := hk.out.1
      have b1 : decide ((0 : Int) < ((m + 1 : Nat) : Int)) = true := by rw [decide_eq_true_eq]; omega
      have b1n : decide (0 < m + 1) = true := by simp
      obtain ⟨x, hx⟩ : ∃ x, L[i]? = some x := ⟨_, List.getElem?_eq_getElem hlt⟩
      have HX := Lib.hid hx
      have HXL := Lib.hid (HL.out.2.2.2.1 x (List.mem_of_getElem? hx))
      obtain ⟨cn, hcn⟩ : ∃ cn : Nat, C x = (cn : Int) := ⟨(C x).toNat, by have := HG.out.lo x; omega⟩
      have HCN : Hid (C x = (cn : Int) ∧ (C x).toNat = cn ∧ cn ≤ 1099511627776 ∧ 1 ≤ cn) := by
        have h1 := HG.out.hi x
        have h2 := (HG.out.mem x).1 ((HL.out.2.2.1 x).1 (List.mem_of_getElem? hx))
        exact ⟨hcn, by omega, by omega, by omega⟩
      have hdrop : L.drop i = x :: L.drop (i + 1) := by
        obtain ⟨h1, rfl⟩ := List.getElem?_eq_some_iff.1 hx
        exact List.drop_eq_getElem_cons h1
      have hnb : nb r = num x.length ++ (x.map UInt8.toNat ++ (num cn ++ (L.drop (i + 1)).flatMap (goodBs C))) := by
        rw [hW.out.nbr, hdrop, List.flatMap_cons]
        simp only [goodBs, HCN.out.2.1, List.append_assoc]
      have hrz : r.size ≤ 600 := by
        have h1 := goods_len HG.out (L.drop i) fun y hy => (HL.out.2.2.2.1 y (List.mem_of_mem_drop hy)).1
        rw [← nb_length, hW.out.nbr]
        have h2 : (L.drop i).length ≤ 16 := by rw [List.length_drop]; have := HL.out.1; omega
        omega
      have hxs : ByteArray.size ⟨x.toArray⟩ = x.length := by simp [ByteArray.size]
      obtain ⟨r1, hf1, hr1⟩ := strS ⟨x.toArray⟩ 12 (by rw [hxs]; have := HXL.out.1; omega) (by decide) r ((num cn ++ (L.drop (i + 1)).flatMap (goodBs C))) (by rw [hxs, nb_arr]; exact hnb) hrz
      have hr1z : r1.size ≤ 600 := by
        have h1 := congrArg List.length hr1
        have h2 := congrArg List.length hnb
        rw [nb_length] at h1 h2
        simp only [List.length_append] at h1 h2
        omega
      obtain ⟨r2, hf2, hr2⟩ := uptoS cn 1099511627776 (by have := HCN.out.2.2.1; omega) (by decide) r1 _ hr1 hr1z
      have HF := Lib.hid (And.intro hf1 (And.intro hf2 hr2))
      have HLST := Lib.hid (hk.out.2 x hx)
      have HLT := Lib.hid hlt
      clear hx hcn hdrop hnb hrz hf1 hr1 hr1z hf2 hr2 hlt hkk hxs
      go_wp2_with fail
      refine (wire_Reader_Err.calls g r 0 0 r 0 w _ hW.out.rd hW.out.bl rfl).mono ?_
      rintro e w5 ⟨rfl, hi5, hb5, hk5⟩
      have HW5 : Hid (LoadW w w5 s mb g i L C r) := ⟨hW.out.read hi5 hb5 hk5, hi5, hW.out.nbr, hb5, hW.out.ne⟩
      clear hi5 hb5 hk5
      go_wp2_with fail
      refine (wire_Reader_Str.calls 2000 g r 0 12 _ r1 0 w _ HW5.out.rd HW5.out.bl HF.out.1).mono ?_
      rintro e w6 ⟨rfl, hi6, hb6, hk6⟩
      have HS6 := Lib.hid (And.intro (HW5.out.read hi6 hb6 hk6) (And.intro hi6 hb6))
      clear hi6 hb6 hk6
      go_wp2_with fail
      refine (wire_Reader_Upto.calls 2000 g r1 0 1099511627776 _ r2 0 w _ HS6.out.2.1 HS6.out.2.2 HF.out.2.1).mono ?_
      rintro e w7 ⟨rfl, hi7, hb7, hk7⟩
      have HS7 := Lib.hid (And.intro (HS6.out.1.turn (rd_turn HS6.out.2.2 hb7 hk7) (fun e => HW5.out.ne.1 (show s = g from e).symm) (fun e => HW5.out.ne.2 (show mb = g from e).symm)) (And.intro hi7 hb7))
      clear hi7 hb7 hk7 HS6
      go_wp2_with fail
      refine (wire_Reader_Err.calls g r2 0 0 r2 0 w _ HS7.out.2.1 HS7.out.2.2 rfl).mono ?_
      rintro e w8 ⟨rfl, hi8, hb8, hk8⟩
      have HS8 := Lib.hid (And.intro (HS7.out.1.turn (rd_turn HS7.out.2.2 hb8 hk8) (fun e => HW5.out.ne.1 (show s = g from e).symm) (fun e => HW5.out.ne.2 (show mb = g from e).symm)) (And.intro hi8 hb8))
      clear hi8 hb8 hk8 HS7
      have hc1 : Op.bytesLess x lst = false := by
        rw [Go.Proofs.bytesLess_eq, decide_eq_false_iff_not]
        exact fun h => HLST.out (List.le_of_lt h)
      have hc2 : (x == lst) = false := by
        rw [beq_eq_false_iff_ne]
        rintro rfl
        exact HLST.out (List.le_refl _)
      have hc3 : decide ((cn : Int) < 1) = false := by have := HCN.out.2.2.2; simp; omega
      have hc3n : decide (cn < 1) = false := by have := HCN.out.2.2.2; simp; omega
      obtain ⟨D, hD⟩ := HS8.out.1.map
      have HD := Lib.hid hD
      obtain ⟨v0, st, w9, w10, hent, hst, hown, hg10, hg9⟩ := hD.entry (x := ⟨x.toArray⟩) (v := (cn : Int)) (by show x.toArray.size ≤ maxLen; have := HXL.out.1; simp; unfold maxLen; omega) (by have := HL.out.1; have := HLT.out; unfold maxLen; omega) (wf_small (by omega) (by have := HCN.out.2.2.1; omega))
      have HO := Lib.hid (And.intro hown (And.intro hg10 hg9))
      have c0 := HS8.out.1.cell
      have hs1 : IntKind.i64.wrap (m : Int) = (m : Int) := IntWalk.i64_in _ ⟨by omega, by have := HL.out.1; have := hk.out.1; omega⟩
      have hs2 : wrap64 (m : Int) = (m : Int) := IntWalk.wrap64_in _ ⟨by omega, by have := HL.out.1; have := hk.out.1; omega⟩
      have HS1 := Lib.hid (And.intro hs1 hs2)
      clear hD hown hg10 hg9 hs1 hs2
      go_wp2_with fail
      clear hent hst c0 hc1 hc2 hc3 hc3n b1 b1n
      have HP : Hid (LoadW w w10 s mb g (i + 1) L C r2) := by
        have hxn : x ∉ L.take i := by
          intro hx
          obtain ⟨k, hk2⟩ := List.getElem?_of_mem hx
          have hki : k < i := by
            have := (List.getElem?_eq_some_iff.1 hk2).1
            rw [List.length_take] at this; omega
          rw [List.getElem?_take_of_lt hki] at hk2
          obtain ⟨h1, e1⟩ := List.getElem?_eq_some_iff.1 hk2
          obtain ⟨h2, e2⟩ := List.getElem?_eq_some_iff.1 HX.out
          exact (List.pairwise_iff_getElem.1 HL.out.2.1 k i h1 h2 hki) (by rw [e1, e2])
        have htk : L.take (i + 1) = L.take i ++ [x] := by rw [List.take_add_one, HX.out]; rfl
        have hown := HO.out.1
        rw [show nmOf ⟨x.toArray⟩ = x by unfold nmOf; simp] at hown
        have h1 := HD.out.put (K' := (L.take (i + 1)).reverse) (by have := HCN.out.2.2.2; omega : (cn : Int) ≠ 0) hown (by rw [if_neg (by rw [List.mem_reverse]; exact hxn), htk, List.reverse_append]; rfl)
        have e1 : (fun y => if y = x then (cn : Int) else cutC C L i y) = cutC C L (i + 1) := by
          funext y
          unfold cutC
          rw [htk]
          by_cases hy : y = x
          · rw [if_pos hy, if_pos (by simp [hy]), hy, HCN.out.1]
          · rw [if_neg hy]
            by_cases hy2 : y ∈ L.take i
            · rw [if_pos hy2, if_pos (by simp [hy2])]
            · rw [if_neg hy2, if_neg (by simp [hy2, hy])]
        rw [e1] at h1
        have hs := HS8.out.1
        refine ⟨⟨blk_grown hs.hs HO.out.2.1 (fun e => by injection e with e; exact hs.ne e.symm), hs.los, hs.lom, ⟨_, h1⟩, cut_good HG.out HL.out.2.1 HL.out.2.2.1 HL.out.1 (i + 1)⟩, ⟨blk_grown HS8.out.2.1.1 HO.out.2.1 (fun e => by injection e with e; exact HW5.out.ne.2 e.symm), HS8.out.2.1.2⟩, HF.out.2.2, ?_, HW5.out.ne⟩
        exact ((Turn.toNope HS8.out.2.2).grown HO.out.2.1 fun k hk => .inr (by injection hk with hk; rw [← hk]; exact hs.lom)).nopeBelow
      have HNX : Hid (∀ y, L[i + 1]? = some y → ¬ y ≤ x) := fun y hy => by
        obtain ⟨h1, e1⟩ := List.getElem?_eq_some_iff.1 HX.out
        obtain ⟨h2, e2⟩ := List.getElem?_eq_some_iff.1 hy
        have := List.pairwise_iff_getElem.1 HL.out.2.2.2.2 i (i + 1) h1 h2 (Nat.lt_succ_self i)
        rw [e1, e2] at this
        exact this
      have hs1 := HS1.out.1
      have hs2 := HS1.out.2
      go_wp2_with fail
      go_roundg m
      case measure => omega
      case rel => exact ⟨i + 1, r2, x, by go_num, rfl, ⟨by have := hk.out.1; show _ = _; omega, HNX.out⟩, HP.out⟩
    · obtain rfl : gk = 0 := by have := hk.out.1; omega
      have hil : L.length ≤ i := by omega
      have hr0 : r = ⟨#[]⟩ := nb_nil (by rw [hW.out.nbr, List.drop_eq_nil_of_le hil]; rfl)
      have HE : Hid (wire_Reader_End.f r 0 = some (0, r, 0)) := by show _ = _; rw [hr0, wire_Reader_End.f, if_pos (by rw [ByteArray.toList_eq])]
      have HCC : Hid (cutC C L i = C) := cut_all HG.out HL.out.2.2.1 hil
      have HIL : Hid (i ≤ 16) := by have := hk.out.1; have := HL.out.1; exact (by omega : i ≤ 16)
      clear hlt hil hr0
      go_wp2_with fail
      refine (wire_Reader_End.calls g r 0 0 r 0 w _ hW.out.rd hW.out.bl HE.out).mono ?_
      rintro e w5 ⟨rfl, hi5, hb5, hk5⟩
      have HS5 : Hid (Sh w w5 s mb i C (L.take i).reverse ∧ Below w.heap.size w w5) := by
        have h1 := hW.out.read hi5 hb5 hk5
        rw [HCC.out] at h1
        exact ⟨h1, hb5⟩
      clear hi5 hb5 hk5
      go_wp2_with fail
      go_ret2
      exact ⟨s, mb, i, _, rfl, HS5.out.1, HIL.out, HLO.out.1, HLO.out.2, Turn.toNope HS5.out.2⟩
end Go.Proofs.Yteggenihjhclkaa.Sk
