/- A book of accounts: the plain laws, and the book in memory. The accounts' names, rising: the library's keys and sort at this dump; the walk of Names. New, Has, Check, walked. Check, walked. Do, walked. Do, walked. Sum, walked: of all accounts. NOTHING: the sum of all accounts stays nothing. Save, walked: the goods' bytes. Cut, Few, Inverse; the ops that come in to a law on books; what an inverse does. Load, walked: what was saved is there again. Touches, walked; the plain law of what is apart. -/
import Derived.Test.YteggenihjhclkaaLib
import Derived.Deep.RegionLaw
import Derived.Deep.RegionHeld3
import Derived.Maps.RangeWalk
import Derived.Maps.OwnSet
import Derived.Sort.KeysCollected
import Derived.StringKeys
import Derived.Test.YteggenihjhclkaaShelf
import Derived.Shelf.AbstractIn
import Derived.Deep.CutBlock
import Derived.WideKeyEntry
import Derived.Test.YteggenihjhclkaaWire
import Derived.Test.YteggenihjhclkaaOpen
import Derived.Test.YteggenihjhclkaaTk
set_option maxRecDepth 16000
set_option linter.unusedVariables false
set_option linter.unusedSimpArgs false
namespace Go.Proofs.Yteggenihjhclkaa.Lg
open Go.RowKit Go.Maps
abbrev Nm := List UInt8
/-- An op. -/
structure Op4 where
  k : Int
  nm : Nm
  dt : Nm
  N : Int
/-- May an op be? -/
def chk (o : Op4) : Int :=
  if o.k < 1 ∨ 3 < o.k then 5 else if 12 < o.nm.length ∨ 12 < o.dt.length then 4
  else if o.k = 3 ∧ (o.nm = o.dt ∨ o.N < 1 ∨ 1099511627776 < o.N) then 4 else if o.k ≠ 3 ∧ (o.nm = [] ∨ o.dt ≠ [] ∨ o.N ≠ 0) then 4 else 0
/-- What an op answers, where the accounts are K, and each has so much. -/
def doE (C : Nm → Int) (K : List Nm) (o : Op4) : Int :=
  if chk o ≠ 0 then chk o
  else if o.k = 1 then (if o.nm ∈ K then 9 else if 16 < K.length then 7 else 0)
  else if o.nm ∉ K then 8
  else if o.k = 2 then (if C o.nm ≠ 0 then 11 else 0)
  else if o.dt ∉ K then 8 else if o.nm ≠ [] ∧ C o.nm < o.N then 11 else if o.dt ≠ [] ∧ 1099511627776 < C o.dt + o.N then 10 else 0
def newC (C : Nm → Int) (o : Op4) : Nm → Int := if o.k = 3 then fun y => if y = o.dt then C o.dt + o.N else if y = o.nm then C o.nm - o.N else C y else C
def newK (K : List Nm) (o : Op4) : List Nm := if o.k = 1 then o.nm :: K else if o.k = 2 then K.erase o.nm else K
def doC (C : Nm → Int) (K : List Nm) (o : Op4) : Nm → Int := if doE C K o = 0 then newC C o else C
def doK (C : Nm → Int) (K : List Nm) (o : Op4) : List Nm := if doE C K o = 0 then newK K o else K
/-- The accounts of a book. -/
structure Book (C : Nm → Int) (K : List Nm) : Prop where
  nd : K.Nodup
  out : ∀ x, x ∉ K → C x = 0
  house : [] ∈ K
  lo : ∀ x, x ≠ [] → 0 ≤ C x
  hi : ∀ x, x ≠ [] → C x ≤ 1099511627776
  nm : ∀ x ∈ K, x.length ≤ 12
  le : K.length ≤ 17
variable {C : Nm → Int} {K : List Nm} {o : Op4}
theorem book_new : Book (fun _ => 0) [[]] := ⟨by simp, fun x _ => rfl, by simp, fun x _ => Int.le_refl _, fun x _ => by simp, fun x hx => by simp at hx; simp [hx], by simp⟩
theorem chk_ok (h : chk o = 0) : 1 ≤ o.k ∧ o.k ≤ 3 ∧ o.nm.length ≤ 12 ∧ o.dt.length ≤ 12 ∧ (o.k = 3 → o.nm ≠ o.dt ∧ 1 ≤ o.N ∧ o.N ≤ 1099511627776) ∧ (o.k ≠ 3 → o.nm ≠ [] ∧ o.dt = [] ∧ o.N = 0) := by
  unfold chk at h
  by_cases h1 : o.k < 1 ∨ 3 < o.k
  · rw [if_pos h1] at h; cases h
  rw [if_neg h1] at h
  by_cases h2 : 12 < o.nm.length ∨ 12 < o.dt.length
  · rw [if_pos h2] at h; cases h
  rw [if_neg h2] at h
  by_cases h3 : o.k = 3 ∧ (o.nm = o.dt ∨ o.N < 1 ∨ 1099511627776 < o.N)
  · rw [if_pos h3] at h; cases h
  rw [if_neg h3] at h
  by_cases h4 : o.k ≠ 3 ∧ (o.nm = [] ∨ o.dt ≠ [] ∨ o.N ≠ 0)
  · rw [if_pos h4] at h; cases h
  refine ⟨by omega, by omega, by omega, by omega, fun hk => ?_, fun hk => ?_⟩
  · exact ⟨fun e => h3 ⟨hk, .inl e⟩, by
      by_cases h5 : o.N < 1
      · exact absurd ⟨hk, .inr (.inl h5)⟩ h3
      · omega, by
      by_cases h5 : 1099511627776 < o.N
      · exact absurd ⟨hk, .inr (.inr h5)⟩ h3
      · omega⟩
  · refine ⟨fun e => h4 ⟨hk, .inl e⟩, ?_, ?_⟩
    · by_cases h5 : o.dt = []
      · exact h5
      · exact absurd ⟨hk, .inr (.inl h5)⟩ h4
    · by_cases h5 : o.N = 0
      · exact h5
      · exact absurd ⟨hk, .inr (.inr h5)⟩ h4
theorem doE_ok (h : doE C K o = 0) : chk o = 0 ∧ (o.k = 1 → o.nm ∉ K ∧ K.length ≤ 16) ∧ (o.k = 2 → o.nm ∈ K ∧ C o.nm = 0) ∧ (o.k = 3 → o.nm ∈ K ∧ o.dt ∈ K ∧ (o.nm ≠ [] → o.N ≤ C o.nm) ∧ (o.dt ≠ [] → C o.dt + o.N ≤ 1099511627776)) := by
  unfold doE at h
  have hc : chk o = 0 := by
    by_cases hc : chk o = 0
    · exact hc
    · rw [if_pos hc] at h; exact absurd h hc
  rw [if_neg (by simp [hc])] at h
  refine ⟨hc, fun hk => ?_, fun hk => ?_, fun hk => ?_⟩
  · rw [if_pos hk] at h
    by_cases h1 : o.nm ∈ K
    · rw [if_pos h1] at h; cases h
    · rw [if_neg h1] at h
      by_cases h2 : 16 < K.length
      · rw [if_pos h2] at h; cases h
      · exact ⟨h1, by omega⟩
  · rw [if_neg (by omega)] at h
    by_cases h1 : o.nm ∉ K
    · rw [if_pos h1] at h; cases h
    · rw [if_neg h1, if_pos hk] at h
      by_cases h2 : C o.nm ≠ 0
      · rw [if_pos h2] at h; cases h
      · exact ⟨Classical.not_not.1 h1, Classical.not_not.1 h2⟩
  · rw [if_neg (by omega)] at h
    by_cases h1 : o.nm ∉ K
    · rw [if_pos h1] at h; cases h
    · rw [if_neg h1, if_neg (by omega)] at h
      by_cases h2 : o.dt ∉ K
      · rw [if_pos h2] at h; cases h
      · rw [if_neg h2] at h
        by_cases h3 : o.nm ≠ [] ∧ C o.nm < o.N
        · rw [if_pos h3] at h; cases h
        · rw [if_neg h3] at h
          by_cases h4 : o.dt ≠ [] ∧ 1099511627776 < C o.dt + o.N
          · rw [if_pos h4] at h; cases h
          · exact ⟨Classical.not_not.1 h1, Classical.not_not.1 h2, fun e => by
              by_cases h5 : C o.nm < o.N
              · exact absurd ⟨e, h5⟩ h3
              · omega, fun e => by
              by_cases h5 : 1099511627776 < C o.dt + o.N
              · exact absurd ⟨e, h5⟩ h4
              · omega⟩
theorem newC_move (hk : o.k = 3) : newC C o = fun y => if y = o.dt then C o.dt + o.N else if y = o.nm then C o.nm - o.N else C y := by unfold newC; rw [if_pos hk]
theorem newC_stay (hk : o.k ≠ 3) : newC C o = C := by unfold newC; rw [if_neg hk]
theorem Book.put (h : Book C K) (hd : doE C K o = 0) : Book (newC C o) (newK K o) := by
  obtain ⟨hc, h1, h2, h3⟩ := doE_ok hd
  obtain ⟨c1, c2, c3, c4, c5, c6⟩ := chk_ok hc
  by_cases hk3 : o.k = 3
  · obtain ⟨a1, a2, a3, a4⟩ := h3 hk3
    obtain ⟨b1, b2, b3⟩ := c5 hk3
    have hK : newK K o = K := by unfold newK; rw [if_neg (by omega), if_neg (by omega)]
    rw [hK, newC_move hk3]
    refine ⟨h.nd, fun x hx => ?_, h.house, fun x hx => ?_, fun x hx => ?_, h.nm, h.le⟩
    · show (if x = o.dt then _ else if x = o.nm then _ else _) = _
      rw [if_neg (fun e => hx (by rw [e]; exact a2)), if_neg (fun e => hx (by rw [e]; exact a1))]
      exact h.out x hx
    · show 0 ≤ (if x = o.dt then _ else if x = o.nm then _ else _)
      split
      · rename_i e; subst e; have := h.lo _ hx; omega
      · split
        · rename_i e; subst e; have := a3 hx; omega
        · exact h.lo x hx
    · show (if x = o.dt then _ else if x = o.nm then _ else _) ≤ _
      split
      · rename_i e; subst e; exact a4 hx
      · split
        · rename_i e; subst e; have := h.hi _ hx; omega
        · exact h.hi x hx
  · obtain ⟨b1, b2, b3⟩ := c6 hk3
    rw [newC_stay hk3]
    by_cases hk1 : o.k = 1
    · obtain ⟨a1, a2⟩ := h1 hk1
      have hK : newK K o = o.nm :: K := by unfold newK; rw [if_pos hk1]
      rw [hK]
      exact ⟨List.nodup_cons.2 ⟨a1, h.nd⟩, fun x hx => h.out x fun e => hx (List.mem_cons_of_mem _ e), List.mem_cons_of_mem _ h.house, h.lo, h.hi, fun x hx => by
        rcases List.mem_cons.1 hx with rfl | hx
        · exact c3
        · exact h.nm x hx, by rw [List.length_cons]; omega⟩
    · have hk2 : o.k = 2 := by omega
      obtain ⟨a1, a2⟩ := h2 hk2
      have hK : newK K o = K.erase o.nm := by unfold newK; rw [if_neg hk1, if_pos hk2]
      rw [hK]
      exact ⟨h.nd.erase _, fun x hx => by
        by_cases hxn : x = o.nm
        · rw [hxn]; exact a2
        · exact h.out x fun e => hx ((List.mem_erase_of_ne hxn).2 e), (List.mem_erase_of_ne (fun e => b1 e.symm)).2 h.house, h.lo, h.hi, fun x hx => h.nm x (List.mem_of_mem_erase hx), Nat.le_trans List.length_erase_le h.le⟩
theorem Book.did (h : Book C K) : Book (doC C K o) (doK C K o) := by
  unfold doC doK
  by_cases hd : doE C K o = 0
  · rw [if_pos hd, if_pos hd]; exact h.put hd
  · rw [if_neg hd, if_neg hd]; exact h
/-! ### in memory -/
theorem law9 : Keyed Try.prog 9 := string_keyed Try.underlying9
theorem zero3 (w : World) : (zeroValue 3).run Try.prog w = .ok (.int .i64 0) w := Try.zeroValue3 w
abbrev Dm := DataW Unit
/-- The map: what it reads as. -/
structure CntM (w : World) (mb n : Nat) (D : Dm) (C : Nm → Int) (K : List Nm) : Prop where
  own : w.ownsMap Try.prog 9 (plainElem (H := Unit) Try.prog 3) mb n D
  val : ∀ x, D.atKey (.string x) (.lit (.int .i64 0)) = .lit (.int .i64 (C x))
  has : ∀ x, Maps.has D (.string x) = true ↔ x ∈ K
  len : Maps.size D = K.length
structure Sh (w0 w : World) (s mb n : Nat) (C : Nm → Int) (K : List Nm) : Prop where
  hs : w.heap[s]? = some (.cells #[.map (some mb)] 92 (0, 0))
  los : w0.heap.size ≤ s
  lom : w0.heap.size ≤ mb
  map : ∃ D, CntM w mb n D C K
  good : Book C K
  house : -((n : Int) * 1099511627776) ≤ C [] ∧ C [] ≤ (n : Int) * 1099511627776
variable {w0 w w' : World} {s mb n : Nat} {D : Dm}
theorem CntM.turn {S : Nat → Prop} (h : CntM w mb n D C K) (ht : Turn S w w') (hS : ¬ S mb) : CntM w' mb n D C K := by
  refine ⟨?_, h.val, h.has, h.len⟩
  obtain ⟨es, clock, hb, F, hs, hD⟩ := h.own
  exact ⟨es, clock, ht.blk hb hS, F, hs, hD⟩
theorem CntM.blk (h : CntM w mb n D C K) : ∃ es clock, w.heap[mb]? = some (.map es clock) := by
  obtain ⟨es, clock, hb, _⟩ := h.own
  exact ⟨es, clock, hb⟩
theorem Sh.turn {S : Nat → Prop} (h : Sh w0 w s mb n C K) (ht : Turn S w w') (hs : ¬ S s) (hS : ¬ S mb) : Sh w0 w' s mb n C K := by
  obtain ⟨D, hD⟩ := h.map
  exact ⟨ht.blk h.hs hs, h.los, h.lom, ⟨D, hD.turn ht hS⟩, h.good, h.house⟩
theorem Sh.nope (h : Sh w0 w s mb n C K) (ht : Turn Nope w w') : Sh w0 w' s mb n C K := h.turn ht (fun h => h) fun h => h
theorem Sh.cell (h : Sh w0 w s mb n C K) : w.cell? ⟨s, 0, none⟩ = some (.map (some mb)) := by
  have c0 := blk_cell h.hs 0
  simpa using c0
theorem Sh.ne (h : Sh w0 w s mb n C K) : s ≠ mb := by
  rintro rfl
  obtain ⟨D, hD⟩ := h.map
  obtain ⟨es, clock, hb⟩ := hD.blk
  rw [h.hs] at hb; cases hb
theorem CntM.look (h : CntM w mb n D C K) {x : ByteArray} (hx : x.size ≤ maxLen) : (Instr.lookup 90 (.map (some mb)) (.string x) true).run Try.prog w = .ok (.tuple #[.int .i64 (C x.data.toList), .bool (Maps.has D (.string x.data.toList))]) w := by
  obtain ⟨v, ps, hrun, hv⟩ := h.own.look_ok law9 Try.underlying90 (zero3 w) (zd := .lit (.int .i64 0)) (zp := []) (plainElem_int Try.underlying3 (by decide)) (Go.WideMaps.keyOf_string_mk Try.underlying9 hx)
  rw [h.val] at hv
  obtain ⟨c, rfl, hc, _⟩ := plainElem_int_inv Try.underlying3 hv
  injection hc with hc _
  injection hc with hc
  injection hc with _ hc
  rw [hc]; exact hrun
theorem CntM.look1 (h : CntM w mb n D C K) {x : ByteArray} (hx : x.size ≤ maxLen) : (Instr.lookup 90 (.map (some mb)) (.string x) false).run Try.prog w = .ok (.int .i64 (C x.data.toList)) w := by
  obtain ⟨v, ps, hrun, hv⟩ := h.own.lookup law9 Try.underlying90 (zero3 w) (zd := .lit (.int .i64 0)) (zp := []) (plainElem_int Try.underlying3 (by decide)) (Go.WideMaps.keyOf_string_mk Try.underlying9 hx)
  rw [h.val] at hv
  obtain ⟨c, rfl, hc, _⟩ := plainElem_int_inv Try.underlying3 hv
  injection hc with hc _
  injection hc with hc
  injection hc with _ hc
  rw [hc]; exact hrun
theorem CntM.put {x : Nm} {v : Int} {w1 : World} {K' : List Nm} (h : CntM w mb n D C K) (h1 : w1.ownsMap Try.prog 9 (plainElem (H := Unit) Try.prog 3) mb (n + 1) (D.put (.string x) (.lit (.int .i64 v)))) (hK : K' = if x ∈ K then K else x :: K) : CntM w1 mb (n + 1) (D.put (.string x) (.lit (.int .i64 v))) (fun y => if y = x then v else C y) K' := by
  subst hK
  refine ⟨h1, fun y => ?_, fun y => ?_, ?_⟩
  · by_cases hyx : y = x
    · subst hyx
      simp only [if_true]
      exact atKey_put_same h.own.isMap (show WideAt.IsKeyLit (.string y) from trivial) _ _
    · simp only [if_neg hyx]
      rw [atKey_put_other (by simpa using hyx)]
      exact h.val y
  · have hm : y ∈ (if x ∈ K then K else x :: K) ↔ y = x ∨ y ∈ K := by
      split
      · rename_i hx
        exact ⟨.inr, fun h => by rcases h with rfl | h; exact hx; exact h⟩
      · exact List.mem_cons
    rw [hm]
    by_cases hyx : y = x
    · subst hyx
      rw [has_put_same h.own.isMap (show WideAt.IsKeyLit (.string y) from trivial)]
      simp
    · rw [has_put_other (by simpa using hyx), h.has y]
      simp [hyx]
  · rw [size_put (h.own.tidy law9)]
    by_cases hx : x ∈ K
    · rw [if_pos ((h.has x).2 hx), if_pos hx, h.len]
    · rw [if_neg (fun e => hx ((h.has x).1 e)), if_neg hx, h.len]; rfl
theorem CntM.del {x : Nm} {w1 : World} (h : CntM w mb n D C K) (hnd : K.Nodup) (h1 : w1.ownsMap Try.prog 9 (plainElem (H := Unit) Try.prog 3) mb n (D.del (.string x))) : CntM w1 mb n (D.del (.string x)) (fun y => if y = x then 0 else C y) (K.erase x) := by
  refine ⟨h1, fun y => ?_, fun y => ?_, ?_⟩
  · by_cases hyx : y = x
    · subst hyx
      simp only [if_true]
      exact atKey_del_same _
    · simp only [if_neg hyx]
      rw [atKey_del_other (by simpa using hyx)]
      exact h.val y
  · by_cases hyx : y = x
    · subst hyx
      rw [has_del_same]
      simp [hnd.not_mem_erase]
    · rw [has_del_other (by simpa using hyx), h.has y, List.mem_erase_of_ne hyx]
  · have h2 := size_del (k := .string x) (h.own.tidy law9)
    rw [h.len] at h2
    by_cases hx : x ∈ K
    · rw [if_pos ((h.has x).2 hx)] at h2
      rw [List.length_erase_of_mem hx]; omega
    · rw [if_neg (fun e => hx ((h.has x).1 e))] at h2
      rw [List.erase_of_not_mem hx]; omega
theorem CntM.keys (h : CntM w mb n D C K) (hnd : K.Nodup) : K.Perm (strKeys D) := by
  obtain ⟨es, hD, hpw, _⟩ := h.own.entries law9
  obtain ⟨es', hD', hko⟩ := h.own.keysOf
  obtain rfl : es = es' := by rw [hD] at hD'; simpa using hD'
  have hh := h.has
  rw [hD] at hh ⊢
  exact perm_strKeys hpw (fun p hp => by obtain ⟨v, hv⟩ := hko p hp; obtain ⟨x, _, hx, _⟩ := Maps.keyOf_str Try.underlying9 hv; exact ⟨x, hx⟩) hnd fun x => (hh x).symm
end Go.Proofs.Yteggenihjhclkaa.Lg
set_option maxRecDepth 16000
set_option linter.unusedVariables false
set_option linter.unusedSimpArgs false
namespace Go.Proofs.Yteggenihjhclkaa.Lg
open Go.RowKit Go.Maps Go.Sort Go.Shelf
theorem it_sorts79 (m : Nat) : AnyZ.SortsIn Try.prog Try.sorted79_ren Fence.wide m :=
  ⟨fun blk off cap ss W hH hblk hsz => callsIn_wide.2 (AnyM.slices_Sort_string Try.sort82 blk off cap ss W hH hblk hsz),
   fun p cap W => callsIn_wide.2 (AnyM.slices_Sort_string_none Try.sort82 p cap W)⟩

theorem it_maps_Keys_24 (mb : Option Nat) (W : World) : CallsIn Fence.wide 5 Try.prog 80 #[.map mb] W fun e w' => e = .returned (.func (.func 83) #[] #[.pointer (some ⟨W.heap.size, 0, none⟩)]) ∧ w' = W.alloc (.cells #[.map mb] 90) :=
  AnyZ.keys_in Try.keys80 Fence.wide 5 trivial rfl mb W

set_option maxHeartbeats 1000000 in
theorem it_slices_Sorted_keys_79_80 {H : Type} (b nn : Nat) (D0 : DataW H) (R : Value → Option (DataW H × List MemPlace)) (w : World) (hown : w.ownsMap Try.prog 9 R b nn D0) (hmax : Maps.size D0 ≤ maxLen) (hbytes : Maps.size D0 * 16 ≤ 140737488355328) :
    CallsIn Fence.wide 5 Try.prog 79 #[.func (.func 83) #[] #[.pointer (some ⟨w.heap.size, 0, none⟩)]] (w.alloc (.cells #[.map (some b)] 90)) fun e w' => ∃ (v : Value) (ss : List (List UInt8)), e = .returned v ∧ ss.Perm (strKeys D0) ∧
      w'.ownsRow (w.alloc (.cells #[.map (some b)] 90)).heap.size 9 1 v ss.length ((ss.mergeSort (fun x y => decide (x ≤ y))).map encStr) ∧ (v = .slice none 0 0 ↔ ss = []) ∧ Below (w.alloc (.cells #[.map (some b)] 90)).heap.size (w.alloc (.cells #[.map (some b)] 90)) w' := by
  have hbl := hown.lt
  have hseq : SeqGives Fence.wide 2 Try.prog 83 #[.pointer (some ⟨w.heap.size, 0, none⟩)] encStr (fun ss => ss.Perm (strKeys D0)) (Maps.size D0) (w.alloc (.cells #[.map (some b)] 90)) :=
    AnyZ.keys_gives (ρ := Try.keys80_ren) { Try.keys80 with } Fence.wide _ trivial rfl (by omega) w.heap.size b nn D0 _ (by simp) (by simp) (by
      obtain ⟨es, clock, hb, Ft, hs, hD⟩ := hown
      exact ⟨es, clock, (Below.heap_alloc _ _ b hbl).trans hb, Ft, hs, hD⟩)
  exact AnyZ.sorted_in Try.sorted79 Fence.wide 5 trivial trivial trivial trivial rfl (by omega) (it_sorts79 _) (enters_of Try.func82 (by kernel_rfl) rfl) 83 #[.pointer (some ⟨w.heap.size, 0, none⟩)] trivial (enters_of Try.func83 (by kernel_rfl) rfl) _ _ hmax hbytes _ hseq

set_option maxHeartbeats 1000000 in
theorem it_slices_Sorted_keys_nil_79_80 (w : World) :
    CallsIn Fence.wide 5 Try.prog 79 #[.func (.func 83) #[] #[.pointer (some ⟨w.heap.size, 0, none⟩)]] (w.alloc (.cells #[.map none] 90)) fun e w' => ∃ (v : Value) (ss : List (List UInt8)), e = .returned v ∧ ss = [] ∧
      w'.ownsRow (w.alloc (.cells #[.map none] 90)).heap.size 9 1 v ss.length ((ss.mergeSort (fun x y => decide (x ≤ y))).map encStr) ∧ (v = .slice none 0 0 ↔ ss = []) ∧ Below (w.alloc (.cells #[.map none] 90)).heap.size (w.alloc (.cells #[.map none] 90)) w' := by
  have hseq : SeqGives Fence.wide 2 Try.prog 83 #[.pointer (some ⟨w.heap.size, 0, none⟩)] encStr (fun ss : List (List UInt8) => ss = []) 0 (w.alloc (.cells #[.map none] 90)) :=
    AnyZ.keys_gives_nil (ρ := Try.keys80_ren) { Try.keys80 with } Fence.wide _ trivial rfl w.heap.size _ (by simp) (by simp)
  exact AnyZ.sorted_in Try.sorted79 Fence.wide 5 trivial trivial trivial trivial rfl (by omega) (it_sorts79 _) (enters_of Try.func82 (by kernel_rfl) rfl) 83 #[.pointer (some ⟨w.heap.size, 0, none⟩)] trivial (enters_of Try.func83 (by kernel_rfl) rfl) _ 0 (Nat.zero_le _) (by omega) _ hseq


/-- The names, rising. -/
def srt (K : List Nm) : List Nm := K.mergeSort leB
/-- .. but the house. -/
def accs (K : List Nm) : List Nm := (srt K).tail
def encs (L : List Nm) : List Value := L.map encStr
variable {C : Nm → Int} {K : List Nm} {w0 w w' : World} {s mb n : Nat} {D : Dm}
theorem srt_length (K : List Nm) : (srt K).length = K.length := List.length_mergeSort K
theorem srt_mem (K : List Nm) (x : Nm) : x ∈ srt K ↔ x ∈ K := (List.mergeSort_perm K _).mem_iff
theorem srt_perm {K L : List Nm} (h : K.Perm L) : srt K = srt L := mergeSort_of_perm h
theorem accs_perm {K L : List Nm} (h : K.Perm L) : accs K = accs L := by unfold accs; rw [srt_perm h]
theorem srt_house (h : [] ∈ K) : srt K = [] :: accs K := by
  have tr : ∀ a b c : Nm, leB a b = true → leB b c = true → leB a c = true := fun a b c h1 h2 => by simp only [leB, decide_eq_true_eq] at *; exact List.le_trans h1 h2
  have tot : ∀ a b : Nm, (leB a b || leB b a) = true := fun a b => by simp only [leB, Bool.or_eq_true, decide_eq_true_eq]; exact List.le_total a b
  have h1 : (srt K).Pairwise (fun a b => leB a b = true) := List.pairwise_mergeSort tr tot K
  have h2 := (srt_mem K []).2 h
  unfold accs
  cases hs : srt K with
  | nil => rw [hs] at h2; cases h2
  | cons x l =>
    rw [hs] at h1 h2
    have hx : x = [] := by
      rcases List.mem_cons.1 h2 with e | e
      · exact e.symm
      · have := (List.pairwise_cons.1 h1).1 [] e
        simp only [leB, decide_eq_true_eq] at this
        exact List.le_nil.1 this
    rw [hx]; rfl
theorem accs_length (h : [] ∈ K) : (accs K).length + 1 = K.length := by
  have := congrArg List.length (srt_house h)
  rw [srt_length, List.length_cons] at this
  omega
theorem accs_mem (hn : K.Nodup) (h : [] ∈ K) (x : Nm) : x ∈ accs K ↔ x ∈ K ∧ x ≠ [] := by
  have h1 := srt_house h
  have h2 : (srt K).Nodup := (List.mergeSort_perm K _).nodup_iff.2 hn
  rw [h1] at h2
  have h3 := (List.nodup_cons.1 h2).1
  rw [← srt_mem K x, h1, List.mem_cons]
  constructor
  · intro hx
    exact ⟨.inr hx, fun e => h3 (by rw [← e]; exact hx)⟩
  · rintro ⟨hx | hx, hne⟩
    · exact absurd hx hne
    · exact hx
/-- The names in memory: a row of one's own, but its first. -/
def NamV (w w' : World) (K : List Nm) (v : Value) : Prop := ∃ A c g cap, v = .slice A (accs K).length c ∧ (accs K).length ≤ c ∧ (0 < (accs K).length → A = some ⟨g, 1, none⟩) ∧ w'.ownsRow w.heap.size 9 1 (.slice (some ⟨g, 0, none⟩) ((accs K).length + 1) cap) ((accs K).length + 1) (encs ([] :: accs K))
set_option maxHeartbeats 4000000 in
theorem names_any (h : Sh w0 w s mb n C K) :
    Calls Try.prog 78 #[.pointer (some ⟨s, 0, none⟩)] w fun e w' => ∃ v, e = .returned v ∧ NamV w w' K v ∧ Turn Nope w w' := by
  obtain ⟨D, hD⟩ := h.map
  have c0 := h.cell
  have hown := hD.own
  have hkeys := hD.keys h.good.nd
  have hle : Maps.size D ≤ 17 := by rw [hD.len]; exact h.good.le
  have HK := Lib.hid hkeys
  have HH := Lib.hid h.good.house
  have hmax : Maps.size D ≤ maxLen := by unfold maxLen; omega
  have hbytes : Maps.size D * 16 ≤ 140737488355328 := by omega
  have cS := it_slices_Sorted_keys_79_80 mb n D _ w hown hmax hbytes
  have HCS := Lib.hid cS
  clear h hD hkeys hown hmax hbytes hle cS
  refine (callsIn_wide (n := 6)).1 ?_
  have hfK : Fence.wide.fn 80 := trivial
  have hfS : Fence.wide.fn 79 := trivial
  refine callsIn_of_wp Try.func78 rfl trivial ?_ rfl
  simp only [Try.ntmps78, List.size_toArray, List.length_cons, List.length_nil, Nat.reduceAdd, Nat.reduceSub, Array.replicate_succ, Array.replicate_zero, List.push_toArray, List.append_toArray, List.nil_append, List.cons_append]
  gi_wp2_with (first
    | (gi_at_call 80; refine (it_maps_Keys_24 _ _).mono ?_; rintro e w' ⟨rfl, rfl⟩)
    | (gi_at_call 79; refine HCS.out.mono ?_; rintro e w' ⟨v, ss, rfl, hS, hrow, hnil, hb⟩; have hrow2 := Lib.hid (And.intro hS (And.intro hrow hb)); obtain ⟨g, cap, ev, hcap, hcm⟩ : ∃ g cap, v = .slice (some ⟨g, 0, none⟩) ss.length cap ∧ ss.length ≤ cap ∧ cap ≤ maxLen := (by rcases hrow.2 with ⟨_, h0⟩ | ⟨g, cap, cur, hv, _, _, h1, h2, _⟩; (exfalso; have h1 := (hS.trans HK.out.symm).length_eq; have h2 := List.length_pos_of_mem HH.out; omega); exact ⟨g, cap, hv, h1, h2⟩); subst ev; have hl0 : 1 ≤ ss.length := (by have h1 := (hS.trans HK.out.symm).length_eq; have h2 := List.length_pos_of_mem HH.out; omega); have p1 : (1 : Int) ≤ (ss.length : Int) := (by omega); have p2 : (ss.length : Int) ≤ (cap : Int) := (by omega); clear hS hrow hb hnil))
  all_goals
    go_ret
    obtain ⟨hS, hrow, hb⟩ := hrow2.out
    have e : ss.mergeSort (fun x y => decide (x ≤ y)) = [] :: accs K := (mergeSort_of_perm (hS.trans HK.out.symm)).trans (srt_house HH.out)
    have el : ss.length = (accs K).length + 1 := by have := congrArg List.length e; rw [List.length_mergeSort] at this; simpa using this
    rw [e, el] at hrow
    have ea : (accs K).length = ss.length - 1 := by omega
    first
      | exact ⟨.slice (some ⟨g, 1, none⟩) (accs K).length (cap - 1), by rw [ea]; rfl, ⟨some ⟨g, 1, none⟩, cap - 1, g, cap, rfl, by omega, fun _ => rfl, ownsRow_base_a hrow (by simp)⟩, ((Turn.refl _ _).alloc _).below hb⟩
      | exact ⟨.slice (some ⟨g, 0, none⟩) (accs K).length 0, by rw [ea]; rfl, ⟨some ⟨g, 0, none⟩, 0, g, cap, rfl, by omega, fun hp => by exfalso; omega, ownsRow_base_a hrow (by simp)⟩, ((Turn.refl _ _).alloc _).below hb⟩
end Go.Proofs.Yteggenihjhclkaa.Lg
set_option maxRecDepth 16000
set_option linter.unusedVariables false
set_option linter.unusedSimpArgs false
namespace Go.Proofs.Yteggenihjhclkaa.Lg
open Go.RowKit Go.Maps
variable {C : Nm → Int} {K : List Nm} {w0 w w' : World} {s mb n : Nat} {D : Dm}
def nmOf (x : ByteArray) : Nm := x.data.toList
theorem nm_len (x : ByteArray) : (nmOf x).length = x.size := by unfold nmOf; rw [Array.length_toList]; rfl
theorem make_map (W : World) : (Instr.makeMap 90 none).run Try.prog W = .ok (.map (some W.heap.size)) (W.alloc (.map #[] 0)) := by
  first | exact run_makeMap W _ | kernel_rfl | rfl
theorem cnt_new (w : World) : CntM (w.alloc (.map #[] 0)) w.heap.size 0 (.map []) (fun _ => 0) [] := ⟨World.ownsMap_made _ _ _ _, fun x => rfl, fun x => by simp [Maps.has], rfl⟩
theorem new_any (w0 w : World) (ht : Turn Nope w0 w) : Calls Try.prog 25 #[] w fun e w' => ∃ s mb, e = .returned (.pointer (some ⟨s, 0, none⟩)) ∧ Sh w0 w' s mb 1 (fun _ => 0) [[]] ∧ w.heap.size ≤ s ∧ w.heap.size ≤ mb ∧ Turn Nope w w' := by
  have HT := Lib.hid ht
  clear ht
  have hmp := make_map
  have h0 := cnt_new w
  obtain ⟨w2, hins, hown, hg⟩ := h0.own.update law9 Try.underlying90 (by unfold maxLen; omega) (Go.WideMaps.keyOf_string_mk Try.underlying9 (s := ⟨#[]⟩) (by decide)) (val := .int .i64 0) (plainElem_int Try.underlying3 (by decide))
  have h1 := h0.put hown rfl
  have hC : (fun y => if y = (⟨#[]⟩ : ByteArray).data.toList then (0 : Int) else 0) = fun _ => 0 := by funext y; simp
  have H1 : Hid (∃ D, CntM w2 w.heap.size 1 D (fun _ => 0) [[]]) := by
    rw [hC] at h1
    exact ⟨_, h1⟩
  have HT2 : Hid (Turn Nope w w2) := ((Turn.refl Nope w).alloc _).grown hg fun k hk => .inr (by injection hk with hk; omega)
  clear h0 hown hg h1 hC
  go_enter Try.func25, Try.ntmps25
  go_wp2_with fail
  go_ret
  exact ⟨_, w.heap.size, rfl, ⟨blk_new w2 _, Nat.le_trans HT.out.size HT2.out.size, HT.out.size, (by obtain ⟨D, hD⟩ := H1.out; exact ⟨D, hD.turn ((Turn.refl Nope _).alloc _) fun h => h⟩), book_new, by decide, by decide⟩, HT2.out.size, Nat.le_refl _, HT2.out.alloc _⟩
theorem nm_nil {x : ByteArray} : nmOf x = [] ↔ x.size = 0 := by
  rw [← nm_len, List.length_eq_zero_iff]
theorem tl (x : ByteArray) : x.toList = nmOf x := ByteArray.toList_eq x
theorem nm_inj {x y : ByteArray} (h : nmOf x = nmOf y) : x = y := Go.WideShapes.bytes_inj h
theorem nm_empty {x : ByteArray} (h : nmOf x = []) : x = ⟨#[]⟩ := ByteArray.ext (Array.eq_empty_of_size_eq_zero (nm_nil.1 h))
end Go.Proofs.Yteggenihjhclkaa.Lg
set_option maxRecDepth 16000
set_option linter.unusedVariables false
set_option linter.unusedSimpArgs false
namespace Go.Proofs.Yteggenihjhclkaa.Lg
open Go.RowKit Go.Maps
set_option maxHeartbeats 4000000 in
theorem check_any (kd : Int) (x y : ByteArray) (N : Int) (w : World) : Calls Try.prog 28 #[.agg #[.int .i64 kd, .string x, .string y, .int .i64 N]] w fun e w' => e = .returned (.int .i64 (chk ⟨kd, nmOf x, nmOf y, N⟩)) ∧ Turn Nope w w' := by
  obtain ⟨c, hc⟩ : ∃ c, chk ⟨kd, nmOf x, nmOf y, N⟩ = c := ⟨_, rfl⟩
  rw [hc]
  have HC := Lib.hid hc
  clear hc
  by_cases h1 : kd < 1
  · have e1 : decide (kd < 1) = true := by simp; omega
    have hv : c = 5 := by
      rw [← HC.out]
      unfold chk
      rw [if_pos (show kd < 1 ∨ 3 < kd by omega)]
    subst hv
    try clear h1
    try clear h2
    try clear h3
    try clear h4
    try clear h5
    try clear h6
    try clear h7
    clear HC
    go_enter Try.func28, Try.ntmps28
    go_wp2_with fail
    all_goals
      go_ret
      exact ⟨rfl, by repeat (first | exact Turn.refl _ _ | apply Turn.drewN | apply Turn.drew | apply Turn.alloc)⟩
  · have e1 : decide (kd < 1) = false := by simp; omega
    by_cases h2 : 3 < kd
    · have e2 : decide (3 < kd) = true := by simp; omega
      have hv : c = 5 := by
        rw [← HC.out]
        unfold chk
        rw [if_pos (show kd < 1 ∨ 3 < kd by omega)]
      subst hv
      try clear h1
      try clear h2
      try clear h3
      try clear h4
      try clear h5
      try clear h6
      try clear h7
      clear HC
      go_enter Try.func28, Try.ntmps28
      go_wp2_with fail
      all_goals
        go_ret
        exact ⟨rfl, by repeat (first | exact Turn.refl _ _ | apply Turn.drewN | apply Turn.drew | apply Turn.alloc)⟩
    · have e2 : decide (3 < kd) = false := by simp; omega
      by_cases h3 : 12 < x.size
      · have e3 : decide ((12 : Int) < (x.size : Int)) = true := by simp; omega
        have e4 : decide (12 < x.size) = true := by simp; omega
        have hv : c = 4 := by
          rw [← HC.out]
          unfold chk
          rw [if_neg (show ¬ (kd < 1 ∨ 3 < kd) by omega)]
          rw [if_pos (show 12 < (nmOf x).length ∨ 12 < (nmOf y).length by rw [nm_len, nm_len]; omega)]
        subst hv
        try clear h1
        try clear h2
        try clear h3
        try clear h4
        try clear h5
        try clear h6
        try clear h7
        clear HC
        go_enter Try.func28, Try.ntmps28
        go_wp2_with fail
        all_goals
          go_ret
          exact ⟨rfl, by repeat (first | exact Turn.refl _ _ | apply Turn.drewN | apply Turn.drew | apply Turn.alloc)⟩
      · have e3 : decide ((12 : Int) < (x.size : Int)) = false := by simp; omega
        have e4 : decide (12 < x.size) = false := by simp; omega
        by_cases h4 : 12 < y.size
        · have e5 : decide ((12 : Int) < (y.size : Int)) = true := by simp; omega
          have e6 : decide (12 < y.size) = true := by simp; omega
          have hv : c = 4 := by
            rw [← HC.out]
            unfold chk
            rw [if_neg (show ¬ (kd < 1 ∨ 3 < kd) by omega)]
            rw [if_pos (show 12 < (nmOf x).length ∨ 12 < (nmOf y).length by rw [nm_len, nm_len]; omega)]
          subst hv
          try clear h1
          try clear h2
          try clear h3
          try clear h4
          try clear h5
          try clear h6
          try clear h7
          clear HC
          go_enter Try.func28, Try.ntmps28
          go_wp2_with fail
          all_goals
            go_ret
            exact ⟨rfl, by repeat (first | exact Turn.refl _ _ | apply Turn.drewN | apply Turn.drew | apply Turn.alloc)⟩
        · have e5 : decide ((12 : Int) < (y.size : Int)) = false := by simp; omega
          have e6 : decide (12 < y.size) = false := by simp; omega
          obtain rfl | rfl | rfl : kd = 1 ∨ kd = 2 ∨ kd = 3 := by omega
          · have k3 : ((1 : Int) == 3) = false := by decide
            have k3n : ((1 : Int) != 3) = true := by decide
            by_cases h5 : nmOf x = []
            · have g1 : x.toList.isEmpty = true := by rw [tl, h5]; rfl
              have hv : c = 4 := by
                rw [← HC.out]
                unfold chk
                rw [if_neg (show ¬ ((1 : Int) < 1 ∨ 3 < (1 : Int)) by decide)]
                rw [if_neg (show ¬ (12 < (nmOf x).length ∨ 12 < (nmOf y).length) by rw [nm_len, nm_len]; omega)]
                rw [if_neg (show ¬ ((1 : Int) = 3 ∧ _) from fun e => by have := e.1; omega)]
                rw [if_pos (show (1 : Int) ≠ 3 ∧ (nmOf x = [] ∨ nmOf y ≠ [] ∨ N ≠ 0) from ⟨by decide, .inl h5⟩)]
              subst hv
              try clear h1
              try clear h2
              try clear h3
              try clear h4
              try clear h5
              try clear h6
              try clear h7
              clear HC
              go_enter Try.func28, Try.ntmps28
              go_wp2_with fail
              all_goals
                go_ret
                exact ⟨rfl, by repeat (first | exact Turn.refl _ _ | apply Turn.drewN | apply Turn.drew | apply Turn.alloc)⟩
            · have g1 : x.toList.isEmpty = false := by rw [tl, List.isEmpty_eq_false_iff]; exact h5
              by_cases h6 : nmOf y = []
              · have g2 : y.toList.isEmpty = true := by rw [tl, h6]; rfl
                by_cases h7 : N = 0
                · have g3 : (N != 0) = false := by simp [h7]
                  have hv : c = 0 := by
                    rw [← HC.out]
                    unfold chk
                    rw [if_neg (show ¬ ((1 : Int) < 1 ∨ 3 < (1 : Int)) by decide)]
                    rw [if_neg (show ¬ (12 < (nmOf x).length ∨ 12 < (nmOf y).length) by rw [nm_len, nm_len]; omega)]
                    rw [if_neg (show ¬ ((1 : Int) = 3 ∧ _) from fun e => by have := e.1; omega)]
                    rw [if_neg (show ¬ ((1 : Int) ≠ 3 ∧ (nmOf x = [] ∨ nmOf y ≠ [] ∨ N ≠ 0)) from fun e => by rcases e.2 with e | e | e; exact h5 e; exact e h6; exact e h7)]
                  subst hv
                  try clear h1
                  try clear h2
                  try clear h3
                  try clear h4
                  try clear h5
                  try clear h6
                  try clear h7
                  clear HC
                  go_enter Try.func28, Try.ntmps28
                  go_wp2_with fail
                  all_goals
                    go_ret
                    exact ⟨rfl, by repeat (first | exact Turn.refl _ _ | apply Turn.drewN | apply Turn.drew | apply Turn.alloc)⟩
                · have g3 : (N != 0) = true := by simpa using h7
                  have hv : c = 4 := by
                    rw [← HC.out]
                    unfold chk
                    rw [if_neg (show ¬ ((1 : Int) < 1 ∨ 3 < (1 : Int)) by decide)]
                    rw [if_neg (show ¬ (12 < (nmOf x).length ∨ 12 < (nmOf y).length) by rw [nm_len, nm_len]; omega)]
                    rw [if_neg (show ¬ ((1 : Int) = 3 ∧ _) from fun e => by have := e.1; omega)]
                    rw [if_pos (show (1 : Int) ≠ 3 ∧ (nmOf x = [] ∨ nmOf y ≠ [] ∨ N ≠ 0) from ⟨by decide, .inr (.inr h7)⟩)]
                  subst hv
                  try clear h1
                  try clear h2
                  try clear h3
                  try clear h4
                  try clear h5
                  try clear h6
                  try clear h7
                  clear HC
                  go_enter Try.func28, Try.ntmps28
                  go_wp2_with fail
                  all_goals
                    go_ret
                    exact ⟨rfl, by repeat (first | exact Turn.refl _ _ | apply Turn.drewN | apply Turn.drew | apply Turn.alloc)⟩
              · have g2 : y.toList.isEmpty = false := by rw [tl, List.isEmpty_eq_false_iff]; exact h6
                have hv : c = 4 := by
                  rw [← HC.out]
                  unfold chk
                  rw [if_neg (show ¬ ((1 : Int) < 1 ∨ 3 < (1 : Int)) by decide)]
                  rw [if_neg (show ¬ (12 < (nmOf x).length ∨ 12 < (nmOf y).length) by rw [nm_len, nm_len]; omega)]
                  rw [if_neg (show ¬ ((1 : Int) = 3 ∧ _) from fun e => by have := e.1; omega)]
                  rw [if_pos (show (1 : Int) ≠ 3 ∧ (nmOf x = [] ∨ nmOf y ≠ [] ∨ N ≠ 0) from ⟨by decide, .inr (.inl h6)⟩)]
                subst hv
                try clear h1
                try clear h2
                try clear h3
                try clear h4
                try clear h5
                try clear h6
                try clear h7
                clear HC
                go_enter Try.func28, Try.ntmps28
                go_wp2_with fail
                all_goals
                  go_ret
                  exact ⟨rfl, by repeat (first | exact Turn.refl _ _ | apply Turn.drewN | apply Turn.drew | apply Turn.alloc)⟩
          · have k3 : ((2 : Int) == 3) = false := by decide
            have k3n : ((2 : Int) != 3) = true := by decide
            by_cases h5 : nmOf x = []
            · have g1 : x.toList.isEmpty = true := by rw [tl, h5]; rfl
              have hv : c = 4 := by
                rw [← HC.out]
                unfold chk
                rw [if_neg (show ¬ ((2 : Int) < 1 ∨ 3 < (2 : Int)) by decide)]
                rw [if_neg (show ¬ (12 < (nmOf x).length ∨ 12 < (nmOf y).length) by rw [nm_len, nm_len]; omega)]
                rw [if_neg (show ¬ ((2 : Int) = 3 ∧ _) from fun e => by have := e.1; omega)]
                rw [if_pos (show (2 : Int) ≠ 3 ∧ (nmOf x = [] ∨ nmOf y ≠ [] ∨ N ≠ 0) from ⟨by decide, .inl h5⟩)]
              subst hv
              try clear h1
              try clear h2
              try clear h3
              try clear h4
              try clear h5
              try clear h6
              try clear h7
              clear HC
              go_enter Try.func28, Try.ntmps28
              go_wp2_with fail
              all_goals
                go_ret
                exact ⟨rfl, by repeat (first | exact Turn.refl _ _ | apply Turn.drewN | apply Turn.drew | apply Turn.alloc)⟩
            · have g1 : x.toList.isEmpty = false := by rw [tl, List.isEmpty_eq_false_iff]; exact h5
              by_cases h6 : nmOf y = []
              · have g2 : y.toList.isEmpty = true := by rw [tl, h6]; rfl
                by_cases h7 : N = 0
                · have g3 : (N != 0) = false := by simp [h7]
                  have hv : c = 0 := by
                    rw [← HC.out]
                    unfold chk
                    rw [if_neg (show ¬ ((2 : Int) < 1 ∨ 3 < (2 : Int)) by decide)]
                    rw [if_neg (show ¬ (12 < (nmOf x).length ∨ 12 < (nmOf y).length) by rw [nm_len, nm_len]; omega)]
                    rw [if_neg (show ¬ ((2 : Int) = 3 ∧ _) from fun e => by have := e.1; omega)]
                    rw [if_neg (show ¬ ((2 : Int) ≠ 3 ∧ (nmOf x = [] ∨ nmOf y ≠ [] ∨ N ≠ 0)) from fun e => by rcases e.2 with e | e | e; exact h5 e; exact e h6; exact e h7)]
                  subst hv
                  try clear h1
                  try clear h2
                  try clear h3
                  try clear h4
                  try clear h5
                  try clear h6
                  try clear h7
                  clear HC
                  go_enter Try.func28, Try.ntmps28
                  go_wp2_with fail
                  all_goals
                    go_ret
                    exact ⟨rfl, by repeat (first | exact Turn.refl _ _ | apply Turn.drewN | apply Turn.drew | apply Turn.alloc)⟩
                · have g3 : (N != 0) = true := by simpa using h7
                  have hv : c = 4 := by
                    rw [← HC.out]
                    unfold chk
                    rw [if_neg (show ¬ ((2 : Int) < 1 ∨ 3 < (2 : Int)) by decide)]
                    rw [if_neg (show ¬ (12 < (nmOf x).length ∨ 12 < (nmOf y).length) by rw [nm_len, nm_len]; omega)]
                    rw [if_neg (show ¬ ((2 : Int) = 3 ∧ _) from fun e => by have := e.1; omega)]
                    rw [if_pos (show (2 : Int) ≠ 3 ∧ (nmOf x = [] ∨ nmOf y ≠ [] ∨ N ≠ 0) from ⟨by decide, .inr (.inr h7)⟩)]
                  subst hv
                  try clear h1
                  try clear h2
                  try clear h3
                  try clear h4
                  try clear h5
                  try clear h6
                  try clear h7
                  clear HC
                  go_enter Try.func28, Try.ntmps28
                  go_wp2_with fail
                  all_goals
                    go_ret
                    exact ⟨rfl, by repeat (first | exact Turn.refl _ _ | apply Turn.drewN | apply Turn.drew | apply Turn.alloc)⟩
              · have g2 : y.toList.isEmpty = false := by rw [tl, List.isEmpty_eq_false_iff]; exact h6
                have hv : c = 4 := by
                  rw [← HC.out]
                  unfold chk
                  rw [if_neg (show ¬ ((2 : Int) < 1 ∨ 3 < (2 : Int)) by decide)]
                  rw [if_neg (show ¬ (12 < (nmOf x).length ∨ 12 < (nmOf y).length) by rw [nm_len, nm_len]; omega)]
                  rw [if_neg (show ¬ ((2 : Int) = 3 ∧ _) from fun e => by have := e.1; omega)]
                  rw [if_pos (show (2 : Int) ≠ 3 ∧ (nmOf x = [] ∨ nmOf y ≠ [] ∨ N ≠ 0) from ⟨by decide, .inr (.inl h6)⟩)]
                subst hv
                try clear h1
                try clear h2
                try clear h3
                try clear h4
                try clear h5
                try clear h6
                try clear h7
                clear HC
                go_enter Try.func28, Try.ntmps28
                go_wp2_with fail
                all_goals
                  go_ret
                  exact ⟨rfl, by repeat (first | exact Turn.refl _ _ | apply Turn.drewN | apply Turn.drew | apply Turn.alloc)⟩
          · have k3 : ((3 : Int) == 3) = true := by decide
            have k3n : ((3 : Int) != 3) = false := by decide
            by_cases h5 : nmOf x = nmOf y
            · have g1 : (x.toList == y.toList) = true := by rw [tl, tl, h5]; simp
              have hv : c = 4 := by
                rw [← HC.out]
                unfold chk
                rw [if_neg (show ¬ ((3 : Int) < 1 ∨ 3 < (3 : Int)) by decide)]
                rw [if_neg (show ¬ (12 < (nmOf x).length ∨ 12 < (nmOf y).length) by rw [nm_len, nm_len]; omega)]
                rw [if_pos (show (3 : Int) = 3 ∧ (nmOf x = nmOf y ∨ N < 1 ∨ 1099511627776 < N) from ⟨rfl, .inl h5⟩)]
              subst hv
              try clear h1
              try clear h2
              try clear h3
              try clear h4
              try clear h5
              try clear h6
              try clear h7
              clear HC
              go_enter Try.func28, Try.ntmps28
              go_wp2_with fail
              all_goals
                go_ret
                exact ⟨rfl, by repeat (first | exact Turn.refl _ _ | apply Turn.drewN | apply Turn.drew | apply Turn.alloc)⟩
            · have g1 : (x.toList == y.toList) = false := by rw [tl, tl, beq_eq_false_iff_ne]; exact h5
              by_cases h6 : N < 1
              · have e7 : decide (N < 1) = true := by simp; omega
                have hv : c = 4 := by
                  rw [← HC.out]
                  unfold chk
                  rw [if_neg (show ¬ ((3 : Int) < 1 ∨ 3 < (3 : Int)) by decide)]
                  rw [if_neg (show ¬ (12 < (nmOf x).length ∨ 12 < (nmOf y).length) by rw [nm_len, nm_len]; omega)]
                  rw [if_pos (show (3 : Int) = 3 ∧ (nmOf x = nmOf y ∨ N < 1 ∨ 1099511627776 < N) from ⟨rfl, .inr (.inl h6)⟩)]
                subst hv
                try clear h1
                try clear h2
                try clear h3
                try clear h4
                try clear h5
                try clear h6
                try clear h7
                clear HC
                go_enter Try.func28, Try.ntmps28
                go_wp2_with fail
                all_goals
                  go_ret
                  exact ⟨rfl, by repeat (first | exact Turn.refl _ _ | apply Turn.drewN | apply Turn.drew | apply Turn.alloc)⟩
              · have e7 : decide (N < 1) = false := by simp; omega
                by_cases h7 : 1099511627776 < N
                · have e8 : decide (1099511627776 < N) = true := by simp; omega
                  have hv : c = 4 := by
                    rw [← HC.out]
                    unfold chk
                    rw [if_neg (show ¬ ((3 : Int) < 1 ∨ 3 < (3 : Int)) by decide)]
                    rw [if_neg (show ¬ (12 < (nmOf x).length ∨ 12 < (nmOf y).length) by rw [nm_len, nm_len]; omega)]
                    rw [if_pos (show (3 : Int) = 3 ∧ (nmOf x = nmOf y ∨ N < 1 ∨ 1099511627776 < N) from ⟨rfl, .inr (.inr h7)⟩)]
                  subst hv
                  try clear h1
                  try clear h2
                  try clear h3
                  try clear h4
                  try clear h5
                  try clear h6
                  try clear h7
                  clear HC
                  go_enter Try.func28, Try.ntmps28
                  go_wp2_with fail
                  all_goals
                    go_ret
                    exact ⟨rfl, by repeat (first | exact Turn.refl _ _ | apply Turn.drewN | apply Turn.drew | apply Turn.alloc)⟩
                · have e8 : decide (1099511627776 < N) = false := by simp; omega
                  have hv : c = 0 := by
                    rw [← HC.out]
                    unfold chk
                    rw [if_neg (show ¬ ((3 : Int) < 1 ∨ 3 < (3 : Int)) by decide)]
                    rw [if_neg (show ¬ (12 < (nmOf x).length ∨ 12 < (nmOf y).length) by rw [nm_len, nm_len]; omega)]
                    rw [if_neg (show ¬ ((3 : Int) = 3 ∧ (nmOf x = nmOf y ∨ N < 1 ∨ 1099511627776 < N)) from fun e => by rcases e.2 with e | e | e; exact h5 e; exact h6 e; exact h7 e)]
                    rw [if_neg (show ¬ ((3 : Int) ≠ 3 ∧ _) from fun e => e.1 rfl)]
                  subst hv
                  try clear h1
                  try clear h2
                  try clear h3
                  try clear h4
                  try clear h5
                  try clear h6
                  try clear h7
                  clear HC
                  go_enter Try.func28, Try.ntmps28
                  go_wp2_with fail
                  all_goals
                    go_ret
                    exact ⟨rfl, by repeat (first | exact Turn.refl _ _ | apply Turn.drewN | apply Turn.drew | apply Turn.alloc)⟩
end Go.Proofs.Yteggenihjhclkaa.Lg
set_option maxRecDepth 16000
set_option linter.unusedVariables false
set_option linter.unusedSimpArgs false
namespace Go.Proofs.Yteggenihjhclkaa.Lg
open Go.RowKit Go.Maps
open Go.ChangeMaps (setBlock heap_setBlock_same heap_setBlock_other)
variable {C : Nm → Int} {K : List Nm} {w0 w w' : World} {s mb n : Nat} {D : Dm} {o : Op4}
theorem setBlock_twice (w : World) (b : Nat) (o1 o2 : Obj) : setBlock (setBlock w b o1) b o2 = setBlock w b o2 := by
  unfold setBlock
  simp [Array.setIfInBounds_setIfInBounds]
theorem CntM.entry (h : CntM w mb n D C K) {x : ByteArray} (hx : x.size ≤ maxLen) (hn : n < maxLen) {v : Int} (hv : (Lit.int .i64 v).wf = true) :
    ∃ (v0 : Value) (st : Int) (w1 w2 : World), (Instr.mapEntry 90 (.map (some mb)) (.string x)).run Try.prog w = .ok (.tuple #[v0, .int .i64 st]) w1 ∧ (Instr.entryStore 90 (.map (some mb)) (.int .i64 st) (.int .i64 v)).run Try.prog w1 = .ok () w2 ∧
      w2.ownsMap Try.prog 9 (plainElem (H := Unit) Try.prog 3) mb (n + 1) (D.put (.string (nmOf x)) (.lit (.int .i64 v))) ∧ w.grownBy w2 (some mb) ∧ w.grownBy w1 (some mb) := by
  obtain ⟨es, clock, hb, F, hs, hD⟩ := h.own
  have hkey : keyOf Try.prog 9 (.string x) = some (.string (nmOf x)) := Go.WideMaps.keyOf_string_mk Try.underlying9 hx
  obtain ⟨v0, st, es1, clock1, h1, _, h2⟩ := Go.WideElems.entry_then_store (Go.WideMaps.string_law Try.underlying9) Try.underlying90 (fun u => zero3 u) hb F hkey
  obtain ⟨es', clock', h3, h4⟩ := h2 (setBlock w mb (.map es1 clock1)) (.int .i64 v) (heap_setBlock_same hb _)
  obtain ⟨w2, h5, h6, h7⟩ := h.own.update law9 Try.underlying90 hn hkey (val := .int .i64 v) (plainElem_int Try.underlying3 hv)
  rw [h4] at h5
  injection h5 with _ h5
  rw [setBlock_twice, h5] at h3
  refine ⟨v0, (st : Int), _, w2, h1, h3, h6, h7, ⟨rfl, rfl, rfl, by simp [setBlock], fun i _ hi => heap_setBlock_other hb _ (fun e => hi (by rw [e]))⟩⟩
theorem CntM.mono (h : CntM w mb n D C K) {n' : Nat} (hn : n ≤ n') : CntM w mb n' D C K := ⟨h.own.mono hn, h.val, h.has, h.len⟩
theorem house_more (h : Sh w0 w s mb n C K) {a : Int} (h0 : -1099511627776 ≤ a - C []) (h1 : a - C [] ≤ 1099511627776) {m : Nat} (hm : n + 1 ≤ m) : -((m : Int) * 1099511627776) ≤ a ∧ a ≤ (m : Int) * 1099511627776 := by
  have h2 := h.house
  omega
theorem Sh.none (h : Sh w0 w s mb n C K) (hd : doE C K o ≠ 0) : Sh w0 w s mb (n + 2) (doC C K o) (doK C K o) := by
  unfold doC doK
  rw [if_neg hd, if_neg hd]
  obtain ⟨D, hD⟩ := h.map
  exact ⟨h.hs, h.los, h.lom, ⟨D, hD.mono (by omega)⟩, h.good, house_more h (by omega) (by omega) (by omega)⟩
theorem Sh.same {w5 : World} (h : Sh w0 w s mb n C K) (hd : doE C K o = 0) (hg : w.grownBy w5 (some mb)) {D' : Dm} (hm : CntM w5 mb (n + 2) D' (newC C o) (newK K o)) : Sh w0 w5 s mb (n + 2) (doC C K o) (doK C K o) := by
  unfold doC doK
  rw [if_pos hd, if_pos hd]
  refine ⟨blk_grown h.hs hg (fun e => by injection e with e; exact h.ne e.symm), h.los, h.lom, ⟨_, hm⟩, h.good.put hd, ?_⟩
  obtain ⟨hc, h1, h2, h3⟩ := doE_ok hd
  obtain ⟨c1, c2, c3, c4, c5, c6⟩ := chk_ok hc
  by_cases hk : o.k = 3
  · have hb := c5 hk
    rw [newC_move hk]
    show -(((n + 2 : Nat) : Int) * 1099511627776) ≤ (if [] = o.dt then _ else if [] = o.nm then _ else _) ∧ (if [] = o.dt then _ else if [] = o.nm then _ else _) ≤ _
    split
    · rename_i e; rw [← e]; exact house_more h (by omega) (by omega) (by omega)
    · split
      · rename_i e; rw [← e]; exact house_more h (by omega) (by omega) (by omega)
      · exact house_more h (by omega) (by omega) (by omega)
  · rw [newC_stay hk]; exact house_more h (by omega) (by omega) (by omega)
theorem doE_chk (h : chk o ≠ 0) : doE C K o = chk o := by unfold doE; rw [if_pos h]
theorem wf_small {v : Int} (h0 : -4611686018427387904 ≤ v) (h1 : v ≤ 4611686018427387904) : (Lit.int .i64 v).wf = true := by
  have a : IntKind.i64.min ≤ v := Int.le_trans (by decide) h0
  have b : v ≤ IntKind.i64.max := Int.le_trans h1 (by decide)
  show (decide (_ ≤ _) && decide (_ ≤ _)) = true
  rw [decide_eq_true a, decide_eq_true b]; rfl
end Go.Proofs.Yteggenihjhclkaa.Lg
set_option maxRecDepth 16000
set_option linter.unusedVariables false
set_option linter.unusedSimpArgs false
namespace Go.Proofs.Yteggenihjhclkaa.Lg
open Go.RowKit Go.Maps
variable {C : Nm → Int} {K : List Nm} {w0 w w' : World} {s mb n : Nat} {D : Dm} {o : Op4}
theorem val_bound (h : Sh w0 w s mb n C K) (hn : n ≤ 1000) (x : Nm) : -1200000000000000 ≤ C x ∧ C x ≤ 1200000000000000 := by
  by_cases hx : x = []
  · subst hx
    have := h.house
    omega
  · have h1 := h.good.lo x hx
    have h2 := h.good.hi x hx
    omega
set_option maxHeartbeats 32000000 in
theorem do_any (h : Sh w0 w s mb n C K) (hn : n ≤ 1000) (kd N : Int) (x y : ByteArray) (hx : x.size ≤ maxLen) (hy : y.size ≤ maxLen) :
    Calls Try.prog 76 #[.pointer (some ⟨s, 0, none⟩), .agg #[.int .i64 kd, .string x, .string y, .int .i64 N]] w fun e w' => e = .returned (.int .i64 (doE C K ⟨kd, nmOf x, nmOf y, N⟩)) ∧ Sh w0 w' s mb (n + 2) (doC C K ⟨kd, nmOf x, nmOf y, N⟩) (doK C K ⟨kd, nmOf x, nmOf y, N⟩) ∧ Turn (At mb) w w' := by
  obtain ⟨R, hR⟩ : ∃ R, doE C K ⟨kd, nmOf x, nmOf y, N⟩ = R := ⟨_, rfl⟩
  rw [hR]
  have HR := Lib.hid hR
  have H0 := Lib.hid h
  have HN := Lib.hid (And.intro hn (And.intro hx hy))
  clear hR h hn hx hy
  go_enter Try.func76, Try.ntmps76
  go_wp2_with fail
  have HB0 := Lib.hid (blk_new w (.cells #[.int .i64 kd, .string x, .string y, .int .i64 N] 26))
  obtain ⟨B, hB⟩ : ∃ B, w.heap.size = B := ⟨_, rfl⟩
  refine (check_any kd x y N _).mono ?_
  rintro e w1 ⟨rfl, ht⟩
  have HB1 : Hid (w1.heap[B]? = some (.cells #[.int .i64 kd, .string x, .string y, .int .i64 N] 26 (0, 0))) := by rw [← hB]; exact ht.blk HB0.out fun h => h
  have HT1 : Hid (Turn Nope w w1) := ((Turn.refl _ _).alloc _).trans ht
  rw [hB]
  clear hB ht HB0
  have H1 := Lib.hid (H0.out.nope HT1.out)
  obtain ⟨c, hc⟩ : ∃ c, chk ⟨kd, nmOf x, nmOf y, N⟩ = c := ⟨_, rfl⟩
  rw [hc]
  have HC := Lib.hid hc
  clear hc
  by_cases hc0 : c = 0
  · obtain ⟨D, hD⟩ := H1.out.map
    have HD := Lib.hid hD
    have z0 : (c != 0) = false := by simp [hc0]
    have HC0 : Hid (chk ⟨kd, nmOf x, nmOf y, N⟩ = 0) := by show _ = _; rw [HC.out]; exact hc0
    obtain ⟨c1, c2, c3, c4, c5, c6⟩ := chk_ok HC0.out
    have HMV : Hid (N ≤ 1099511627776 ∧ 0 ≤ N) := by
      by_cases h3 : kd = 3
      · have h4 : 1 ≤ N := (c5 h3).2.1
        exact ⟨(c5 h3).2.2, (by omega : 0 ≤ N)⟩
      · have h4 : N = 0 := (c6 h3).2.2
        exact ⟨by omega, by omega⟩
    have hkd : kd = 1 ∨ kd = 2 ∨ kd = 3 := by have c1 : 1 ≤ kd := c1; have c2 : kd ≤ 3 := c2; omega
    obtain ⟨T, hT⟩ : ∃ T, Maps.has D (.string (nmOf x)) = T := ⟨_, rfl⟩
    obtain ⟨v0, hv0⟩ : ∃ v0, C (nmOf x) = v0 := ⟨_, rfl⟩
    have HT : Hid (T = true ↔ nmOf x ∈ K) := by rw [← hT]; exact HD.out.has _
    have HV : Hid (-1200000000000000 ≤ v0 ∧ v0 ≤ 1200000000000000 ∧ C (nmOf x) = v0) := by
      rw [← hv0]; exact ⟨(val_bound H1.out (by have := HN.out.1; omega) _).1, (val_bound H1.out (by have := HN.out.1; omega) _).2, rfl⟩
    have lk2 : (Instr.lookup 90 (.map (some mb)) (.string x) true).run Try.prog w1.drew = .ok (.tuple #[.int .i64 v0, .bool T]) w1.drew := by
      rw [← hT, ← hv0]; exact (HD.out.turn (Turn.refl Nope w1).drew fun h => h).look HN.out.2.1
    have c0 := H1.out.cell
    have b0 := blk_cell HB1.out 0
    have b1 := blk_cell HB1.out 1
    have b2 := blk_cell HB1.out 2
    have b3 := blk_cell HB1.out 3
    simp only [List.getElem?_toArray, List.getElem?_cons_zero, List.getElem?_cons_succ] at b0 b1 b2 b3
    have hkey : keyOf Try.prog 9 (.string x) = some (.string (nmOf x)) := Go.WideMaps.keyOf_string_mk Try.underlying9 HN.out.2.1
    clear hD hc0 hT hv0 c1 c2 c3 c4 c5 c6
    go_upto_region 4 with (fail)
    refine wp_region_held_drew (S := fun W => W.cell? ⟨s, 0, none⟩ = some (.map (some mb)) ∧ W.cell? ⟨B, 1, none⟩ = some (.string x) ∧ (Instr.lookup 90 (.map (some mb)) (.string x) true).run Try.prog W = .ok (.tuple #[.int .i64 v0, .bool T]) W) (by kernel_rfl) ⟨c0, b1, lk2⟩ (fun hHeld => ?_)
    refine' wpAnyH_take (i := 0) (v := _) (by simp only [List.getElem?_toArray, List.getElem?_cons_succ, List.getElem?_cons_zero]; rfl) (by kernel_rfl) (by kernel_rfl) (by kernel_rfl) (by intro _ _ _ h; exact h) (Or.inl ⟨by rfl, ?hyr40⟩) hHeld ?restr40
    case hyr40 => (intro w hSw; (try dsimp only at hSw); go_simp; try (with_reducible rfl))
    simp only [Act.put, List.setIfInBounds_toArray, List.set_cons_zero, List.set_cons_succ]
    refine' wpAnyH_take (i := 1) (v := _) (by simp only [List.getElem?_toArray, List.getElem?_cons_succ, List.getElem?_cons_zero]; rfl) (by kernel_rfl) (by kernel_rfl) (by kernel_rfl) (by intro _ _ _ h; exact h) (Or.inl ⟨by rfl, ?hyr41⟩) hHeld ?restr41
    case hyr41 => (intro w hSw; (try dsimp only at hSw); go_simp; try (with_reducible rfl))
    simp only [Act.put, List.setIfInBounds_toArray, List.set_cons_zero, List.set_cons_succ]
    refine' wpAnyH_take (i := 2) (v := _) (by simp only [List.getElem?_toArray, List.getElem?_cons_succ, List.getElem?_cons_zero]; rfl) (by kernel_rfl) (by kernel_rfl) (by kernel_rfl) (by intro _ _ _ h; exact h) (Or.inl ⟨by rfl, ?hyr42⟩) hHeld ?restr42
    case hyr42 => (intro w hSw; (try dsimp only at hSw); go_simp; try (with_reducible rfl))
    simp only [Act.put, List.setIfInBounds_toArray, List.set_cons_zero, List.set_cons_succ]
    refine' wpAnyH_take (i := 3) (v := _) (by simp only [List.getElem?_toArray, List.getElem?_cons_succ, List.getElem?_cons_zero]; rfl) (by kernel_rfl) (by kernel_rfl) (by kernel_rfl) (by intro _ _ _ h; exact h) (Or.inl ⟨by rfl, ?hyr43⟩) hHeld ?restr43
    case hyr43 => (intro w hSw; (try dsimp only at hSw); go_simp; try (with_reducible rfl))
    simp only [Act.put, List.setIfInBounds_toArray, List.set_cons_zero, List.set_cons_succ]
    refine' wpAnyH_take (i := 4) (v := _) (by simp only [List.getElem?_toArray, List.getElem?_cons_succ, List.getElem?_cons_zero]; rfl) (by kernel_rfl) (by kernel_rfl) (by kernel_rfl) (by intro _ _ _ h; exact h) (Or.inl ⟨by rfl, ?hyr44⟩) hHeld ?restr44
    case hyr44 => (intro w hSw; (try dsimp only at hSw); go_simp; try (with_reducible rfl))
    simp only [Act.put, List.setIfInBounds_toArray, List.set_cons_zero, List.set_cons_succ]
    refine' wpAnyH_take (i := 5) (v := _) (by simp only [List.getElem?_toArray, List.getElem?_cons_succ, List.getElem?_cons_zero]; rfl) (by kernel_rfl) (by kernel_rfl) (by kernel_rfl) (by intro _ _ _ h; exact h) (Or.inl ⟨by rfl, ?hyr45⟩) hHeld ?restr45
    case hyr45 => (intro w hSw; (try dsimp only at hSw); go_simp; try (with_reducible rfl))
    simp only [Act.put, List.setIfInBounds_toArray, List.set_cons_zero, List.set_cons_succ]
    refine' wpAnyH_take (i := 6) (v := _) (by simp only [List.getElem?_toArray, List.getElem?_cons_succ, List.getElem?_cons_zero]; rfl) (by kernel_rfl) (by kernel_rfl) (by kernel_rfl) (by intro _ _ _ h; exact h) (Or.inl ⟨by rfl, ?hyr46⟩) hHeld ?restr46
    case hyr46 => (intro w hSw; (try dsimp only at hSw); go_simp; try (with_reducible rfl))
    simp only [Act.put, List.setIfInBounds_toArray, List.set_cons_zero, List.set_cons_succ]
    refine' wpAnyH_take (i := 7) (v := _) (by simp only [List.getElem?_toArray, List.getElem?_cons_succ, List.getElem?_cons_zero]; rfl) (by kernel_rfl) (by kernel_rfl) (by kernel_rfl) (by intro _ _ _ h; exact h) (Or.inl ⟨by rfl, ?hyr47⟩) hHeld ?restr47
    case hyr47 => (intro w hSw; (try dsimp only at hSw); go_simp; try (with_reducible rfl))
    simp only [Act.put, List.setIfInBounds_toArray, List.set_cons_zero, List.set_cons_succ]
    refine' wpAnyH_take (i := 8) (v := _) (by simp only [List.getElem?_toArray, List.getElem?_cons_succ, List.getElem?_cons_zero]; rfl) (by kernel_rfl) (by kernel_rfl) (by kernel_rfl) (by intro _ _ _ h; exact h) (Or.inl ⟨by rfl, ?hyr48⟩) hHeld ?restr48
    case hyr48 => (intro w hSw; (try dsimp only at hSw); go_simp; try (with_reducible rfl))
    simp only [Act.put, List.setIfInBounds_toArray, List.set_cons_zero, List.set_cons_succ]
    refine' wpAnyH_take (i := 9) (v := _) (by simp only [List.getElem?_toArray, List.getElem?_cons_succ, List.getElem?_cons_zero]; rfl) (by kernel_rfl) (by kernel_rfl) (by kernel_rfl) (by intro _ _ _ h; exact h) (Or.inl ⟨by rfl, ?hyr49⟩) hHeld ?restr49
    case hyr49 => (intro w hSw; (try dsimp only at hSw); go_simp; try (with_reducible rfl))
    simp only [Act.put, List.setIfInBounds_toArray, List.set_cons_zero, List.set_cons_succ]
    refine' wpAnyH_take (i := 10) (v := _) (by simp only [List.getElem?_toArray, List.getElem?_cons_succ, List.getElem?_cons_zero]; rfl) (by kernel_rfl) (by kernel_rfl) (by kernel_rfl) (by intro _ _ _ h; exact h) (Or.inl ⟨by rfl, ?hyr410⟩) hHeld ?restr410
    case hyr410 => (intro w hSw; (try dsimp only at hSw); go_simp; try (with_reducible rfl))
    simp only [Act.put, List.setIfInBounds_toArray, List.set_cons_zero, List.set_cons_succ]
    refine' wpAnyH_take (i := 11) (v := _) (by simp only [List.getElem?_toArray, List.getElem?_cons_succ, List.getElem?_cons_zero]; rfl) (by kernel_rfl) (by kernel_rfl) (by kernel_rfl) (by intro _ _ _ h; exact h) (Or.inl ⟨by rfl, ?hyr411⟩) hHeld ?restr411
    case hyr411 => (intro w hSw; (try dsimp only at hSw); go_simp; try (with_reducible rfl))
    simp only [Act.put, List.setIfInBounds_toArray, List.set_cons_zero, List.set_cons_succ]
    refine wpAnyH_done (by kernel_rfl) ?_ _
    clear hHeld lk2
    have H2 := Lib.hid (H1.out.nope (Turn.refl Nope w1).drew)
    have HT2 := Lib.hid (HT1.out.trans (Turn.refl Nope w1).drew)
    have HD2 := Lib.hid (HD.out.turn (Turn.refl Nope w1).drew fun h => h)
    have HB2 : Hid (w1.drew.heap[B]? = some (.cells #[.int .i64 kd, .string x, .string y, .int .i64 N] 26 (0, 0))) := HB1.out
    have c0 : w1.drew.cell? ⟨s, 0, none⟩ = some (.map (some mb)) := c0
    have b0 : w1.drew.cell? ⟨B, 0, none⟩ = _ := b0
    have b1 : w1.drew.cell? ⟨B, 1, none⟩ = _ := b1
    have b2 : w1.drew.cell? ⟨B, 2, none⟩ = _ := b2
    have b3 : w1.drew.cell? ⟨B, 3, none⟩ = _ := b3
    clear H1 HT1 HD HB1
    generalize w1.drew = w2 at *
    rcases hkd with rfl | rfl | rfl
    · have k1 : ((1 : Int) == 1) = true := by decide
      have k2 : ((1 : Int) == 2) = false := by decide
      have hlen : (Builtin.len_ #[90] 3 #[.map (some mb)]).run Try.prog w2 = .ok (.int .i64 (K.length : Int)) w2 := by rw [← HD2.out.len]; exact HD2.out.own.len Try.underlying90 3
      by_cases h0 : nmOf x ∈ K
      · have hTt : T = true := HT.out.2 h0
        subst hTt
        have HE : Hid (R = 9 ∧ doE C K ⟨1, nmOf x, nmOf y, N⟩ ≠ 0) := by
          have h2 : doE C K ⟨1, nmOf x, nmOf y, N⟩ = 9 := by unfold doE; rw [if_neg (by rw [HC0.out]; simp), if_pos rfl]; rw [if_pos h0]
          rw [← HR.out, h2]; exact ⟨rfl, by decide⟩
        clear h0
        go_wp2_with (go_quiet (fail))
        all_goals
          go_ret
          exact ⟨by rw [HE.out.1]; rfl, (H2.out.nope (by repeat (first | exact Turn.refl _ _ | apply Turn.drewN | apply Turn.drew))).none HE.out.2, (HT2.out.trans (by repeat (first | exact Turn.refl _ _ | apply Turn.drewN | apply Turn.drew))).mono fun _ h => h.elim⟩
      · have hTf : T = false := by cases T with | false => rfl | true => exact absurd (HT.out.1 rfl) h0
        subst hTf
        by_cases h1 : 16 < K.length
        · have e1 : decide ((16 : Int) < (K.length : Int)) = true := by simp; omega
          have e1n : decide (16 < K.length) = true := by simp; omega
          have HE : Hid (R = 7 ∧ doE C K ⟨1, nmOf x, nmOf y, N⟩ ≠ 0) := by
            have h2 : doE C K ⟨1, nmOf x, nmOf y, N⟩ = 7 := by unfold doE; rw [if_neg (by rw [HC0.out]; simp), if_pos rfl]; rw [if_neg h0, if_pos h1]
            rw [← HR.out, h2]; exact ⟨rfl, by decide⟩
          clear h0 h1
          go_wp2_with (go_quiet (fail))
          all_goals
            go_ret
            exact ⟨by rw [HE.out.1]; rfl, (H2.out.nope (by repeat (first | exact Turn.refl _ _ | apply Turn.drewN | apply Turn.drew))).none HE.out.2, (HT2.out.trans (by repeat (first | exact Turn.refl _ _ | apply Turn.drewN | apply Turn.drew))).mono fun _ h => h.elim⟩
        · have e1 : decide ((16 : Int) < (K.length : Int)) = false := by simp; omega
          have e1n : decide (16 < K.length) = false := by simp; omega
          have HE : Hid (R = 0 ∧ doE C K ⟨1, nmOf x, nmOf y, N⟩ = 0) := by
            have h2 : doE C K ⟨1, nmOf x, nmOf y, N⟩ = 0 := by unfold doE; rw [if_neg (by rw [HC0.out]; simp), if_pos rfl]; rw [if_neg h0, if_neg h1]
            rw [← HR.out]; exact ⟨h2, h2⟩
          have HNI := Lib.hid h0
          clear h0 h1
          go_wp2_with (first | (refine still_tail (id := 10) 6 (by kernel_rfl) (by kernel_rfl) ?_; simp only [List.take_succ_cons, List.take_zero, List.drop_succ_cons, List.drop_zero]; (repeat still_step); refine wpStill_nil ?_) | (at_mapUpdate; refine wpList_mapUpdate_own _ rfl _ _ _ 90 rfl 9 3 law9 Try.underlying90 (plainElem (H := Unit) Try.prog 3) mb n D rfl (show _ from HD2.out.own) (by have := HN.out.1; show n < maxLen; unfold maxLen; omega) _ _ (.string (nmOf x)) rfl rfl hkey (.lit (.int .i64 0)) [] (plainElem_int Try.underlying3 (by decide)) ?_; intro w5 hown1 hgrow1; have HO5 := Lib.hid hown1; have HG5 : Hid (w2.grownBy w5 (some mb)) := ⟨hgrow1.os, hgrow1.tape, hgrow1.output, hgrow1.size, hgrow1.block⟩; clear hown1 hgrow1) | (go_quiet (fail)))
          all_goals
            go_ret
            refine ⟨by rw [HE.out.1]; rfl, H2.out.same HE.out.2 HG5.out (D' := D.put (.string (nmOf x)) (.lit (.int .i64 0))) ?_, (HT2.out.mono (S' := At mb) fun _ h => h.elim).grown HG5.out (fun k hk => .inl (by injection hk with hk; exact hk.symm))⟩
            have h1 := (HD2.out.put HO5.out rfl).mono (Nat.le_succ _)
            have e2 : (fun z => if z = nmOf x then (0 : Int) else C z) = newC C ⟨1, nmOf x, nmOf y, N⟩ := by
              rw [newC_stay (o := ⟨1, nmOf x, nmOf y, N⟩) (show ¬ (1 : Int) = 3 by decide)]; funext z; by_cases hz : z = nmOf x
              · rw [if_pos hz, hz]; exact (H2.out.good.out _ HNI.out).symm
              · rw [if_neg hz]
            rw [e2, if_neg HNI.out] at h1
            exact h1
    · have k1 : ((2 : Int) == 1) = false := by decide
      have k2 : ((2 : Int) == 2) = true := by decide
      by_cases h0 : nmOf x ∈ K
      · have hTt : T = true := HT.out.2 h0
        subst hTt
        by_cases h1 : v0 = 0
        · subst h1
          have HE : Hid (R = 0 ∧ doE C K ⟨2, nmOf x, nmOf y, N⟩ = 0) := by
            have h2 : doE C K ⟨2, nmOf x, nmOf y, N⟩ = 0 := by unfold doE; rw [if_neg (by rw [HC0.out]; simp), if_neg (show ¬ (2 : Int) = 1 by decide)]; rw [if_neg (fun e => e h0), if_pos rfl, if_neg (fun e => e HV.out.2.2)]
            rw [← HR.out]; exact ⟨h2, h2⟩
          clear h0
          go_wp2_with (first | (refine still_tail (id := 17) 6 (by kernel_rfl) (by kernel_rfl) ?_; simp only [List.take_succ_cons, List.take_zero, List.drop_succ_cons, List.drop_zero]; (repeat still_step); refine wpStill_nil ?_) | (at_delete; refine wpList_delete_own _ rfl _ _ 90 9 rfl 3 law9 Try.underlying90 (plainElem (H := Unit) Try.prog 3) mb n D rfl (show _ from HD2.out.own) _ _ rfl hkey ?_; intro w5 hown1 hturn1; have HO5 := Lib.hid hown1; have HG5 : Hid (w2.grownBy w5 (some mb)) := ⟨hturn1.grown.os, hturn1.grown.tape, hturn1.grown.output, hturn1.grown.size, hturn1.grown.block⟩; clear hown1 hturn1) | (go_quiet (fail)))
          all_goals
            go_ret
            refine ⟨by rw [HE.out.1]; rfl, H2.out.same HE.out.2 HG5.out (D' := D.del (.string (nmOf x))) ?_, (HT2.out.mono (S' := At mb) fun _ h => h.elim).grown HG5.out (fun k hk => .inl (by injection hk with hk; exact hk.symm))⟩
            have h1 := (HD2.out.del H2.out.good.nd HO5.out).mono (n' := n + 2) (by omega)
            have e2 : (fun z => if z = nmOf x then (0 : Int) else C z) = newC C ⟨2, nmOf x, nmOf y, N⟩ := by
              rw [newC_stay (o := ⟨2, nmOf x, nmOf y, N⟩) (show ¬ (2 : Int) = 3 by decide)]; funext z; by_cases hz : z = nmOf x
              · rw [if_pos hz, hz]; exact HV.out.2.2.symm
              · rw [if_neg hz]
            rw [e2] at h1
            exact h1
        · have e1 : (v0 != 0) = true := by simpa using h1
          have HE : Hid (R = 11 ∧ doE C K ⟨2, nmOf x, nmOf y, N⟩ ≠ 0) := by
            have h2 : doE C K ⟨2, nmOf x, nmOf y, N⟩ = 11 := by unfold doE; rw [if_neg (by rw [HC0.out]; simp), if_neg (show ¬ (2 : Int) = 1 by decide)]; rw [if_neg (fun e => e h0), if_pos rfl, if_pos (by show C (nmOf x) ≠ 0; rw [HV.out.2.2]; exact h1)]
            rw [← HR.out, h2]; exact ⟨rfl, by decide⟩
          clear h0 h1
          go_wp2_with (go_quiet (fail))
          all_goals
            go_ret
            exact ⟨by rw [HE.out.1]; rfl, (H2.out.nope (by repeat (first | exact Turn.refl _ _ | apply Turn.drewN | apply Turn.drew))).none HE.out.2, (HT2.out.trans (by repeat (first | exact Turn.refl _ _ | apply Turn.drewN | apply Turn.drew))).mono fun _ h => h.elim⟩
      · have hTf : T = false := by cases T with | false => rfl | true => exact absurd (HT.out.1 rfl) h0
        subst hTf
        have HE : Hid (R = 8 ∧ doE C K ⟨2, nmOf x, nmOf y, N⟩ ≠ 0) := by
          have h2 : doE C K ⟨2, nmOf x, nmOf y, N⟩ = 8 := by unfold doE; rw [if_neg (by rw [HC0.out]; simp), if_neg (show ¬ (2 : Int) = 1 by decide)]; rw [if_pos h0]
          rw [← HR.out, h2]; exact ⟨rfl, by decide⟩
        clear h0
        go_wp2_with (go_quiet (fail))
        all_goals
          go_ret
          exact ⟨by rw [HE.out.1]; rfl, (H2.out.nope (by repeat (first | exact Turn.refl _ _ | apply Turn.drewN | apply Turn.drew))).none HE.out.2, (HT2.out.trans (by repeat (first | exact Turn.refl _ _ | apply Turn.drewN | apply Turn.drew))).mono fun _ h => h.elim⟩
    · have k1 : ((3 : Int) == 1) = false := by decide
      have k2 : ((3 : Int) == 2) = false := by decide
      by_cases h0 : nmOf x ∈ K
      · have hTt : T = true := HT.out.2 h0
        subst hTt
        have HX0 := Lib.hid h0
        obtain ⟨T1, hT1⟩ : ∃ T1, Maps.has D (.string (nmOf y)) = T1 := ⟨_, rfl⟩
        obtain ⟨v1, hv1⟩ : ∃ v1, C (nmOf y) = v1 := ⟨_, rfl⟩
        have HT1' : Hid (T1 = true ↔ nmOf y ∈ K) := by rw [← hT1]; exact HD2.out.has _
        have HV1 : Hid (-1200000000000000 ≤ v1 ∧ v1 ≤ 1200000000000000 ∧ C (nmOf y) = v1) := by
          rw [← hv1]; exact ⟨(val_bound H2.out (by have := HN.out.1; omega) _).1, (val_bound H2.out (by have := HN.out.1; omega) _).2, rfl⟩
        have lk2 : (Instr.lookup 90 (.map (some mb)) (.string y) true).run Try.prog w2.drew = .ok (.tuple #[.int .i64 v1, .bool T1]) w2.drew := by
          rw [← hT1, ← hv1]; exact (HD2.out.turn (Turn.refl Nope w2).drew fun h => h).look HN.out.2.2
        clear hT1 hv1 h0
        go_upto_region 19 with (fail)
        refine wp_region_held_drew (S := fun W => W.cell? ⟨s, 0, none⟩ = some (.map (some mb)) ∧ W.cell? ⟨B, 2, none⟩ = some (.string y) ∧ (Instr.lookup 90 (.map (some mb)) (.string y) true).run Try.prog W = .ok (.tuple #[.int .i64 v1, .bool T1]) W) (by kernel_rfl) ⟨c0, b2, lk2⟩ (fun hHeld => ?_)
        refine' wpAnyH_take (i := 0) (v := _) (by simp only [List.getElem?_toArray, List.getElem?_cons_succ, List.getElem?_cons_zero]; rfl) (by kernel_rfl) (by kernel_rfl) (by kernel_rfl) (by intro _ _ _ h; exact h) (Or.inl ⟨by rfl, ?hyr190⟩) hHeld ?restr190
        case hyr190 => (intro w hSw; (try dsimp only at hSw); go_simp; try (with_reducible rfl))
        simp only [Act.put, List.setIfInBounds_toArray, List.set_cons_zero, List.set_cons_succ]
        refine' wpAnyH_take (i := 1) (v := _) (by simp only [List.getElem?_toArray, List.getElem?_cons_succ, List.getElem?_cons_zero]; rfl) (by kernel_rfl) (by kernel_rfl) (by kernel_rfl) (by intro _ _ _ h; exact h) (Or.inl ⟨by rfl, ?hyr191⟩) hHeld ?restr191
        case hyr191 => (intro w hSw; (try dsimp only at hSw); go_simp; try (with_reducible rfl))
        simp only [Act.put, List.setIfInBounds_toArray, List.set_cons_zero, List.set_cons_succ]
        refine' wpAnyH_take (i := 2) (v := _) (by simp only [List.getElem?_toArray, List.getElem?_cons_succ, List.getElem?_cons_zero]; rfl) (by kernel_rfl) (by kernel_rfl) (by kernel_rfl) (by intro _ _ _ h; exact h) (Or.inl ⟨by rfl, ?hyr192⟩) hHeld ?restr192
        case hyr192 => (intro w hSw; (try dsimp only at hSw); go_simp; try (with_reducible rfl))
        simp only [Act.put, List.setIfInBounds_toArray, List.set_cons_zero, List.set_cons_succ]
        refine' wpAnyH_take (i := 3) (v := _) (by simp only [List.getElem?_toArray, List.getElem?_cons_succ, List.getElem?_cons_zero]; rfl) (by kernel_rfl) (by kernel_rfl) (by kernel_rfl) (by intro _ _ _ h; exact h) (Or.inl ⟨by rfl, ?hyr193⟩) hHeld ?restr193
        case hyr193 => (intro w hSw; (try dsimp only at hSw); go_simp; try (with_reducible rfl))
        simp only [Act.put, List.setIfInBounds_toArray, List.set_cons_zero, List.set_cons_succ]
        refine' wpAnyH_take (i := 4) (v := _) (by simp only [List.getElem?_toArray, List.getElem?_cons_succ, List.getElem?_cons_zero]; rfl) (by kernel_rfl) (by kernel_rfl) (by kernel_rfl) (by intro _ _ _ h; exact h) (Or.inl ⟨by rfl, ?hyr194⟩) hHeld ?restr194
        case hyr194 => (intro w hSw; (try dsimp only at hSw); go_simp; try (with_reducible rfl))
        simp only [Act.put, List.setIfInBounds_toArray, List.set_cons_zero, List.set_cons_succ]
        refine' wpAnyH_take (i := 5) (v := _) (by simp only [List.getElem?_toArray, List.getElem?_cons_succ, List.getElem?_cons_zero]; rfl) (by kernel_rfl) (by kernel_rfl) (by kernel_rfl) (by intro _ _ _ h; exact h) (Or.inl ⟨by rfl, ?hyr195⟩) hHeld ?restr195
        case hyr195 => (intro w hSw; (try dsimp only at hSw); go_simp; try (with_reducible rfl))
        simp only [Act.put, List.setIfInBounds_toArray, List.set_cons_zero, List.set_cons_succ]
        refine' wpAnyH_take (i := 6) (v := _) (by simp only [List.getElem?_toArray, List.getElem?_cons_succ, List.getElem?_cons_zero]; rfl) (by kernel_rfl) (by kernel_rfl) (by kernel_rfl) (by intro _ _ _ h; exact h) (Or.inl ⟨by rfl, ?hyr196⟩) hHeld ?restr196
        case hyr196 => (intro w hSw; (try dsimp only at hSw); go_simp; try (with_reducible rfl))
        simp only [Act.put, List.setIfInBounds_toArray, List.set_cons_zero, List.set_cons_succ]
        refine' wpAnyH_take (i := 7) (v := _) (by simp only [List.getElem?_toArray, List.getElem?_cons_succ, List.getElem?_cons_zero]; rfl) (by kernel_rfl) (by kernel_rfl) (by kernel_rfl) (by intro _ _ _ h; exact h) (Or.inl ⟨by rfl, ?hyr197⟩) hHeld ?restr197
        case hyr197 => (intro w hSw; (try dsimp only at hSw); go_simp; try (with_reducible rfl))
        simp only [Act.put, List.setIfInBounds_toArray, List.set_cons_zero, List.set_cons_succ]
        refine' wpAnyH_take (i := 8) (v := _) (by simp only [List.getElem?_toArray, List.getElem?_cons_succ, List.getElem?_cons_zero]; rfl) (by kernel_rfl) (by kernel_rfl) (by kernel_rfl) (by intro _ _ _ h; exact h) (Or.inl ⟨by rfl, ?hyr198⟩) hHeld ?restr198
        case hyr198 => (intro w hSw; (try dsimp only at hSw); go_simp; try (with_reducible rfl))
        simp only [Act.put, List.setIfInBounds_toArray, List.set_cons_zero, List.set_cons_succ]
        refine' wpAnyH_take (i := 9) (v := _) (by simp only [List.getElem?_toArray, List.getElem?_cons_succ, List.getElem?_cons_zero]; rfl) (by kernel_rfl) (by kernel_rfl) (by kernel_rfl) (by intro _ _ _ h; exact h) (Or.inl ⟨by rfl, ?hyr199⟩) hHeld ?restr199
        case hyr199 => (intro w hSw; (try dsimp only at hSw); go_simp; try (with_reducible rfl))
        simp only [Act.put, List.setIfInBounds_toArray, List.set_cons_zero, List.set_cons_succ]
        refine' wpAnyH_take (i := 10) (v := _) (by simp only [List.getElem?_toArray, List.getElem?_cons_succ, List.getElem?_cons_zero]; rfl) (by kernel_rfl) (by kernel_rfl) (by kernel_rfl) (by intro _ _ _ h; exact h) (Or.inl ⟨by rfl, ?hyr1910⟩) hHeld ?restr1910
        case hyr1910 => (intro w hSw; (try dsimp only at hSw); go_simp; try (with_reducible rfl))
        simp only [Act.put, List.setIfInBounds_toArray, List.set_cons_zero, List.set_cons_succ]
        refine' wpAnyH_take (i := 11) (v := _) (by simp only [List.getElem?_toArray, List.getElem?_cons_succ, List.getElem?_cons_zero]; rfl) (by kernel_rfl) (by kernel_rfl) (by kernel_rfl) (by intro _ _ _ h; exact h) (Or.inl ⟨by rfl, ?hyr1911⟩) hHeld ?restr1911
        case hyr1911 => (intro w hSw; (try dsimp only at hSw); go_simp; try (with_reducible rfl))
        simp only [Act.put, List.setIfInBounds_toArray, List.set_cons_zero, List.set_cons_succ]
        refine wpAnyH_done (by kernel_rfl) ?_ _
        clear hHeld lk2
        have H3 := Lib.hid (H2.out.nope (Turn.refl Nope w2).drew)
        have HT3 := Lib.hid (HT2.out.trans (Turn.refl Nope w2).drew)
        have HD3 := Lib.hid (HD2.out.turn (Turn.refl Nope w2).drew fun h => h)
        have HB3 : Hid (w2.drew.heap[B]? = some (.cells #[.int .i64 3, .string x, .string y, .int .i64 N] 26 (0, 0))) := HB2.out
        have c0 : w2.drew.cell? ⟨s, 0, none⟩ = some (.map (some mb)) := c0
        have b0 : w2.drew.cell? ⟨B, 0, none⟩ = _ := b0
        have b1 : w2.drew.cell? ⟨B, 1, none⟩ = _ := b1
        have b2 : w2.drew.cell? ⟨B, 2, none⟩ = _ := b2
        have b3 : w2.drew.cell? ⟨B, 3, none⟩ = _ := b3
        clear H2 HT2 HD2 HB2
        generalize w2.drew = w3 at *
        by_cases h1 : nmOf y ∈ K
        · have hT1 : T1 = true := HT1'.out.2 h1
          subst hT1
          have HY0 := Lib.hid h1
          clear h1
          by_cases hx0 : nmOf x = []
          · have g1 : x.toList.isEmpty = true := by rw [tl, hx0]; rfl
            by_cases hy0 : nmOf y = []
            · have g2 : y.toList.isEmpty = true := by rw [tl, hy0]; rfl
              have HE : Hid (R = 0 ∧ doE C K ⟨3, nmOf x, nmOf y, N⟩ = 0) := by
                have h2 : doE C K ⟨3, nmOf x, nmOf y, N⟩ = 0 := by unfold doE; rw [if_neg (by rw [HC0.out]; simp), if_neg (show ¬ (3 : Int) = 1 by decide)]; rw [if_neg (fun e => e HX0.out), if_neg (show ¬ (3 : Int) = 2 by decide), if_neg (fun e => e HY0.out), if_neg (fun e => e.1 hx0), if_neg (fun e => e.1 hy0)]
                rw [← HR.out]; exact ⟨h2, h2⟩
              obtain ⟨a1, ha1⟩ : ∃ a1, v0 - N = a1 := ⟨_, rfl⟩
              obtain ⟨a2, ha2⟩ : ∃ a2, v1 + N = a2 := ⟨_, rfl⟩
              have hr1 : -4611686018427387904 ≤ a1 ∧ a1 ≤ 4611686018427387904 := by have := HV.out; have := HMV.out; omega
              have hr2 : -4611686018427387904 ≤ a2 ∧ a2 ≤ 4611686018427387904 := by have := HV1.out; have := HMV.out; omega
              have hw1 : wrap64 (v0 - N) = a1 := by rw [ha1]; exact IntWalk.wrap64_in _ ⟨by omega, by omega⟩
              have hw1' : IntKind.i64.wrap (v0 - N) = a1 := by rw [ha1]; exact IntWalk.i64_in _ ⟨by omega, by omega⟩
              have hw2 : wrap64 (v1 + N) = a2 := by rw [ha2]; exact IntWalk.wrap64_in _ ⟨by omega, by omega⟩
              have hw2' : IntKind.i64.wrap (v1 + N) = a2 := by rw [ha2]; exact IntWalk.i64_in _ ⟨by omega, by omega⟩
              have hDd := HD3.out.turn (Turn.refl Nope w3).drew fun h => h
              obtain ⟨p1, st1, u1, u2, hent1, hst1, hown1, hg1, hg1'⟩ := hDd.entry (x := x) HN.out.2.1 (by have := HN.out.1; unfold maxLen; omega) (wf_small hr1.1 hr1.2)
              have hC1 := hDd.put hown1 rfl
              rw [if_pos HX0.out] at hC1
              obtain ⟨p2, st2, u3, u4, hent2, hst2, hown2, hg2, hg2'⟩ := hC1.entry (x := y) HN.out.2.2 (by have := HN.out.1; unfold maxLen; omega) (wf_small hr2.1 hr2.2)
              have hC2 := hC1.put hown2 rfl
              rw [if_pos HY0.out] at hC2
              obtain ⟨DD, hDD⟩ : ∃ DD, (D.put (.string (nmOf x)) (.lit (.int .i64 a1))).put (.string (nmOf y)) (.lit (.int .i64 a2)) = DD := ⟨_, rfl⟩
              rw [hDD] at hC2
              clear hDD
              have HO1 := Lib.hid (And.intro hg1' (And.intro hg1 trivial))
              have HO2 := Lib.hid (And.intro (hg1.andThen hg2' fun j hj => .inr hj) (And.intro (hg1.andThen hg2 fun j hj => .inr hj) hC2))
              have HA := Lib.hid (And.intro ha1 ha2)
              have KEEP : Hid (∀ W, (w3.drew).grownBy W (some mb) → W.cell? ⟨s, 0, none⟩ = some (.map (some mb)) ∧ W.cell? ⟨B, 1, none⟩ = some (.string x) ∧ W.cell? ⟨B, 2, none⟩ = some (.string y) ∧ W.cell? ⟨B, 3, none⟩ = some (.int .i64 N)) := fun W hg => by
                have h1 := blk_grown (w := w3.drew) H3.out.hs hg (fun e => by injection e with e; exact H3.out.ne e.symm)
                have h2 := blk_grown (w := w3.drew) HB3.out hg (fun e => by injection e with e; obtain ⟨es, clock, hb⟩ := HD3.out.blk; rw [e, HB3.out] at hb; cases hb)
                exact ⟨by rw [blk_cell h1]; rfl, by rw [blk_cell h2]; rfl, by rw [blk_cell h2]; rfl, by rw [blk_cell h2]; rfl⟩
              clear hr1 hr2 ha1 ha2 hDd hown1 hg1 hg1' hC1 hown2 hg2 hg2' hC2 hx0 hy0
              go_upto_region 26 with (fail)
              refine wp_region_held_drew (S := fun W => W.cell? ⟨s, 0, none⟩ = some (.map (some mb)) ∧ W.cell? ⟨B, 1, none⟩ = some (.string x) ∧ W.cell? ⟨B, 2, none⟩ = some (.string y) ∧ W.cell? ⟨B, 3, none⟩ = some (.int .i64 N)) (by kernel_rfl) ⟨c0, b1, b2, b3⟩ (fun hHeld => ?_)
              refine' wpAnyH_take (i := 0) (v := _) (by simp only [List.getElem?_toArray, List.getElem?_cons_succ, List.getElem?_cons_zero]; rfl) (by kernel_rfl) (by kernel_rfl) (by kernel_rfl) (by intro _ _ _ h; exact h) (Or.inl ⟨by rfl, ?hyzz1_0⟩) hHeld ?restzz1_0
              case hyzz1_0 => (intro w hSw; (try dsimp only at hSw); go_simp; try (with_reducible rfl))
              simp only [Act.put, List.setIfInBounds_toArray, List.set_cons_zero, List.set_cons_succ]
              refine' wpAnyH_take (i := 1) (v := _) (by simp only [List.getElem?_toArray, List.getElem?_cons_succ, List.getElem?_cons_zero]; rfl) (by kernel_rfl) (by kernel_rfl) (by kernel_rfl) (by intro _ _ _ h; exact h) (Or.inl ⟨by rfl, ?hyzz1_1⟩) hHeld ?restzz1_1
              case hyzz1_1 => (intro w hSw; (try dsimp only at hSw); go_simp; try (with_reducible rfl))
              simp only [Act.put, List.setIfInBounds_toArray, List.set_cons_zero, List.set_cons_succ]
              refine' wpAnyH_take (i := 2) (v := _) (by simp only [List.getElem?_toArray, List.getElem?_cons_succ, List.getElem?_cons_zero]; rfl) (by kernel_rfl) (by kernel_rfl) (by kernel_rfl) (by intro _ _ _ h; exact h) (Or.inl ⟨by rfl, ?hyzz1_2⟩) hHeld ?restzz1_2
              case hyzz1_2 => (intro w hSw; (try dsimp only at hSw); go_simp; try (with_reducible rfl))
              simp only [Act.put, List.setIfInBounds_toArray, List.set_cons_zero, List.set_cons_succ]
              refine' wpAnyH_take (i := 3) (v := _) (by simp only [List.getElem?_toArray, List.getElem?_cons_succ, List.getElem?_cons_zero]; rfl) (by kernel_rfl) (by kernel_rfl) (by kernel_rfl) (by intro _ _ _ h; exact h) (Or.inl ⟨by rfl, ?hyzz1_3⟩) hHeld ?restzz1_3
              case hyzz1_3 => (intro w hSw; (try dsimp only at hSw); go_simp; try (with_reducible rfl))
              simp only [Act.put, List.setIfInBounds_toArray, List.set_cons_zero, List.set_cons_succ]
              refine' wpAnyH_take (i := 4) (v := _) (by simp only [List.getElem?_toArray, List.getElem?_cons_succ, List.getElem?_cons_zero]; rfl) (by kernel_rfl) (by kernel_rfl) (by kernel_rfl) (by intro _ _ _ h; exact h) (Or.inl ⟨by rfl, ?hyzz1_4⟩) hHeld ?restzz1_4
              case hyzz1_4 => (intro w hSw; (try dsimp only at hSw); go_simp; try (with_reducible rfl))
              simp only [Act.put, List.setIfInBounds_toArray, List.set_cons_zero, List.set_cons_succ]
              refine' wpAnyH_take (i := 5) (v := _) (by simp only [List.getElem?_toArray, List.getElem?_cons_succ, List.getElem?_cons_zero]; rfl) (by kernel_rfl) (by kernel_rfl) (by kernel_rfl) (by intro _ _ _ h; exact h) (Or.inl ⟨by rfl, ?hyzz1_5⟩) hHeld ?restzz1_5
              case hyzz1_5 => (intro w hSw; (try dsimp only at hSw); go_simp; try (with_reducible rfl))
              simp only [Act.put, List.setIfInBounds_toArray, List.set_cons_zero, List.set_cons_succ]
              refine' wpAnyH_take (i := 6) (v := _) (by simp only [List.getElem?_toArray, List.getElem?_cons_succ, List.getElem?_cons_zero]; rfl) (by kernel_rfl) (by kernel_rfl) (by kernel_rfl) (by intro _ _ _ h; exact h) (Or.inl ⟨by rfl, ?hyzz1_6⟩) hHeld ?restzz1_6
              case hyzz1_6 => (intro w hSw; (try dsimp only at hSw); go_simp; try (with_reducible rfl))
              simp only [Act.put, List.setIfInBounds_toArray, List.set_cons_zero, List.set_cons_succ]
              refine' wpAnyH_take (i := 7) (v := _) (by simp only [List.getElem?_toArray, List.getElem?_cons_succ, List.getElem?_cons_zero]; rfl) (by kernel_rfl) (by kernel_rfl) (by kernel_rfl) (by intro _ _ _ h; exact h) (Or.inl ⟨by rfl, ?hyzz1_7⟩) hHeld ?restzz1_7
              case hyzz1_7 => (intro w hSw; (try dsimp only at hSw); go_simp; try (with_reducible rfl))
              simp only [Act.put, List.setIfInBounds_toArray, List.set_cons_zero, List.set_cons_succ]
              refine' wpAnyH_take (i := 8) (v := _) (by simp only [List.getElem?_toArray, List.getElem?_cons_succ, List.getElem?_cons_zero]; rfl) (by kernel_rfl) (by kernel_rfl) (by kernel_rfl) (by intro _ _ _ h; exact h) (Or.inl ⟨by rfl, ?hyzz1_8⟩) hHeld ?restzz1_8
              case hyzz1_8 => (intro w hSw; (try dsimp only at hSw); go_simp; try (with_reducible rfl))
              simp only [Act.put, List.setIfInBounds_toArray, List.set_cons_zero, List.set_cons_succ]
              refine' wpAnyH_take (i := 9) (v := _) (by simp only [List.getElem?_toArray, List.getElem?_cons_succ, List.getElem?_cons_zero]; rfl) (by kernel_rfl) (by kernel_rfl) (by kernel_rfl) (by intro _ _ _ h; exact h) (Or.inl ⟨by rfl, ?hyzz1_9⟩) hHeld ?restzz1_9
              case hyzz1_9 => (intro w hSw; (try dsimp only at hSw); go_simp; try (with_reducible rfl))
              simp only [Act.put, List.setIfInBounds_toArray, List.set_cons_zero, List.set_cons_succ]
              refine' wpAnyH_take (i := 10) (v := _) (by simp only [List.getElem?_toArray, List.getElem?_cons_succ, List.getElem?_cons_zero]; rfl) (by kernel_rfl) (by kernel_rfl) (by kernel_rfl) (by intro _ _ _ h; exact h) (Or.inl ⟨by rfl, ?hyzz1_10⟩) hHeld ?restzz1_10
              case hyzz1_10 => (intro w hSw; (try dsimp only at hSw); go_simp; try (with_reducible rfl))
              simp only [Act.put, List.setIfInBounds_toArray, List.set_cons_zero, List.set_cons_succ]
              refine' wpAnyH_take (i := 11) (v := _) (by simp only [List.getElem?_toArray, List.getElem?_cons_succ, List.getElem?_cons_zero]; rfl) (by kernel_rfl) (by kernel_rfl) (by kernel_rfl) (by intro _ _ _ h; exact h) (Or.inl ⟨by rfl, ?hyzz1_11⟩) hHeld ?restzz1_11
              case hyzz1_11 => (intro w hSw; (try dsimp only at hSw); go_simp; try (with_reducible rfl))
              simp only [Act.put, List.setIfInBounds_toArray, List.set_cons_zero, List.set_cons_succ]
              refine' wpAnyH_take (i := 12) (v := _) (by simp only [List.getElem?_toArray, List.getElem?_cons_succ, List.getElem?_cons_zero]; rfl) (by kernel_rfl) (by kernel_rfl) (by kernel_rfl) (by intro _ _ _ h; exact h) (Or.inl ⟨by rfl, ?hyzz1_12⟩) hHeld ?restzz1_12
              case hyzz1_12 => (intro w hSw; (try dsimp only at hSw); go_simp; try (with_reducible rfl))
              simp only [Act.put, List.setIfInBounds_toArray, List.set_cons_zero, List.set_cons_succ]
              refine' wpAnyH_take (i := 13) (v := _) (by simp only [List.getElem?_toArray, List.getElem?_cons_succ, List.getElem?_cons_zero]; rfl) (by kernel_rfl) (by kernel_rfl) (by kernel_rfl) (by intro _ _ _ h; exact h) (Or.inl ⟨by rfl, ?hyzz1_13⟩) hHeld ?restzz1_13
              case hyzz1_13 => (intro w hSw; (try dsimp only at hSw); go_simp; try (with_reducible rfl))
              simp only [Act.put, List.setIfInBounds_toArray, List.set_cons_zero, List.set_cons_succ]
              refine' wpAnyH_take (i := 14) (v := _) (by simp only [List.getElem?_toArray, List.getElem?_cons_succ, List.getElem?_cons_zero]; rfl) (by kernel_rfl) (by kernel_rfl) (by kernel_rfl) (by intro _ _ _ h; exact h) (Or.inl ⟨by rfl, ?hyzz1_14⟩) hHeld ?restzz1_14
              case hyzz1_14 => (intro w hSw; (try dsimp only at hSw); go_simp; try (with_reducible rfl))
              simp only [Act.put, List.setIfInBounds_toArray, List.set_cons_zero, List.set_cons_succ]
              refine' wpAnyH_take (i := 15) (v := _) (by simp only [List.getElem?_toArray, List.getElem?_cons_succ, List.getElem?_cons_zero]; rfl) (by kernel_rfl) (by kernel_rfl) (by kernel_rfl) (by intro _ _ _ h; exact h) (Or.inl ⟨by rfl, ?hyzz1_15⟩) hHeld ?restzz1_15
              case hyzz1_15 => (intro w hSw; (try dsimp only at hSw); go_simp; try (with_reducible rfl))
              simp only [Act.put, List.setIfInBounds_toArray, List.set_cons_zero, List.set_cons_succ]
              refine' wpAnyH_take (i := 16) (v := _) (by simp only [List.getElem?_toArray, List.getElem?_cons_succ, List.getElem?_cons_zero]; rfl) (by kernel_rfl) (by kernel_rfl) (by kernel_rfl) (by intro _ _ _ h; exact h) (Or.inl ⟨by rfl, ?hyzz1_16⟩) hHeld ?restzz1_16
              case hyzz1_16 => (intro w hSw; (try dsimp only at hSw); go_simp; try (with_reducible rfl))
              simp only [Act.put, List.setIfInBounds_toArray, List.set_cons_zero, List.set_cons_succ]
              refine' wpAnyH_take (i := 17) (v := _) (by simp only [List.getElem?_toArray, List.getElem?_cons_succ, List.getElem?_cons_zero]; rfl) (by kernel_rfl) (by kernel_rfl) (by kernel_rfl) (by intro _ _ _ h; exact h) (Or.inl ⟨by rfl, ?hyzz1_17⟩) hHeld ?restzz1_17
              case hyzz1_17 => (intro w hSw; (try dsimp only at hSw); go_simp; try (with_reducible rfl))
              simp only [Act.put, List.setIfInBounds_toArray, List.set_cons_zero, List.set_cons_succ]
              refine' wpAnyH_take (i := 18) (v := _) (by simp only [List.getElem?_toArray, List.getElem?_cons_succ, List.getElem?_cons_zero]; rfl) (by kernel_rfl) (by kernel_rfl) (by kernel_rfl) (by intro _ _ _ h; exact h) (Or.inl ⟨by rfl, ?hyzz1_18⟩) hHeld ?restzz1_18
              case hyzz1_18 => (intro w hSw; (try dsimp only at hSw); go_simp; try (with_reducible rfl))
              simp only [Act.put, List.setIfInBounds_toArray, List.set_cons_zero, List.set_cons_succ]
              refine' wpAnyH_take (i := 19) (v := _) (by simp only [List.getElem?_toArray, List.getElem?_cons_succ, List.getElem?_cons_zero]; rfl) (by kernel_rfl) (by kernel_rfl) (by kernel_rfl) (by intro _ _ _ h; exact h) (Or.inl ⟨by rfl, ?hyzz1_19⟩) hHeld ?restzz1_19
              case hyzz1_19 => (intro w hSw; (try dsimp only at hSw); go_simp; try (with_reducible rfl))
              simp only [Act.put, List.setIfInBounds_toArray, List.set_cons_zero, List.set_cons_succ]
              refine wpAnyH_ready (rs := [20]) (by kernel_rfl) (by simp) (AllReadyH.cons (by simp only [List.getElem?_toArray, List.getElem?_cons_succ, List.getElem?_cons_zero]; rfl) (fun KK hKK => ?_) AllReadyH.nil)
              go_simp
              refine hKK.out _ _ ?_ (fun hHeld => ?_)
              · exact KEEP.out _ HO1.out.1
              clear hKK KK
              try simp only [Act.put, List.setIfInBounds_toArray, List.set_cons_zero, List.set_cons_succ]
              refine' wpAnyH_take (i := 21) (v := _) (by simp only [List.getElem?_toArray, List.getElem?_cons_succ, List.getElem?_cons_zero]; rfl) (by kernel_rfl) (by kernel_rfl) (by kernel_rfl) (by intro _ _ _ h; exact h) (Or.inl ⟨by rfl, ?hyzz1_21⟩) hHeld ?restzz1_21
              case hyzz1_21 => (intro w hSw; (try dsimp only at hSw); go_simp; try (with_reducible rfl))
              simp only [Act.put, List.setIfInBounds_toArray, List.set_cons_zero, List.set_cons_succ]
              refine wpAnyH_ready (rs := [22]) (by kernel_rfl) (by simp) (AllReadyH.cons (by simp only [List.getElem?_toArray, List.getElem?_cons_succ, List.getElem?_cons_zero]; rfl) (fun KK hKK => ?_) AllReadyH.nil)
              go_simp
              refine hKK.out _ _ ?_ (fun hHeld => ?_)
              · exact KEEP.out _ HO1.out.2.1
              clear hKK KK
              try simp only [Act.put, List.setIfInBounds_toArray, List.set_cons_zero, List.set_cons_succ]
              refine wpAnyH_ready (rs := [23]) (by kernel_rfl) (by simp) (AllReadyH.cons (by simp only [List.getElem?_toArray, List.getElem?_cons_succ, List.getElem?_cons_zero]; rfl) (fun KK hKK => ?_) AllReadyH.nil)
              go_simp
              refine hKK.out _ _ ?_ (fun hHeld => ?_)
              · exact KEEP.out _ HO2.out.1
              clear hKK KK
              try simp only [Act.put, List.setIfInBounds_toArray, List.set_cons_zero, List.set_cons_succ]
              refine' wpAnyH_take (i := 24) (v := _) (by simp only [List.getElem?_toArray, List.getElem?_cons_succ, List.getElem?_cons_zero]; rfl) (by kernel_rfl) (by kernel_rfl) (by kernel_rfl) (by intro _ _ _ h; exact h) (Or.inl ⟨by rfl, ?hyzz1_24⟩) hHeld ?restzz1_24
              case hyzz1_24 => (intro w hSw; (try dsimp only at hSw); go_simp; try (with_reducible rfl))
              simp only [Act.put, List.setIfInBounds_toArray, List.set_cons_zero, List.set_cons_succ]
              refine wpAnyH_ready (rs := [25]) (by kernel_rfl) (by simp) (AllReadyH.cons (by simp only [List.getElem?_toArray, List.getElem?_cons_succ, List.getElem?_cons_zero]; rfl) (fun KK hKK => ?_) AllReadyH.nil)
              go_simp
              refine hKK.out _ _ ?_ (fun hHeld => ?_)
              · exact KEEP.out _ HO2.out.2.1
              clear hKK KK
              try simp only [Act.put, List.setIfInBounds_toArray, List.set_cons_zero, List.set_cons_succ]
              refine wpAnyH_done (by kernel_rfl) ?_ _
              clear hHeld
              go_wp2_with fail
              go_ret
              refine ⟨by rw [HE.out.1]; rfl, H3.out.same HE.out.2 (D' := DD) ⟨HO2.out.2.1.os, HO2.out.2.1.tape, HO2.out.2.1.output, HO2.out.2.1.size, HO2.out.2.1.block⟩ ?_, (HT3.out.mono (S' := At mb) fun _ h => h.elim).grown (w := w3) ⟨HO2.out.2.1.os, HO2.out.2.1.tape, HO2.out.2.1.output, HO2.out.2.1.size, HO2.out.2.1.block⟩ (fun k hk => .inl (by injection hk with hk; exact hk.symm))⟩
              have h1 := HO2.out.2.2
              have e2 : (fun z => if z = nmOf y then a2 else if z = nmOf x then a1 else C z) = newC C ⟨3, nmOf x, nmOf y, N⟩ := by
                rw [newC_move (o := ⟨3, nmOf x, nmOf y, N⟩) rfl]; funext z; show _ = (if z = nmOf y then C (nmOf y) + N else if z = nmOf x then C (nmOf x) - N else C z); rw [HV.out.2.2, HV1.out.2.2, HA.out.1, HA.out.2]
              rw [e2] at h1
              exact h1
            · have g2 : y.toList.isEmpty = false := by rw [tl, List.isEmpty_eq_false_iff]; exact hy0
              have s1 : wrap64 (v1 + N) = v1 + N := IntWalk.wrap64_in _ ⟨by have := HV1.out; have := HMV.out; omega, by have := HV1.out; have := HMV.out; omega⟩
              by_cases hov : 1099511627776 < v1 + N
              · have e5 : decide (1099511627776 < v1 + N) = true := by simpa using hov
                have HE : Hid (R = 10 ∧ doE C K ⟨3, nmOf x, nmOf y, N⟩ ≠ 0) := by
                  have h2 : doE C K ⟨3, nmOf x, nmOf y, N⟩ = 10 := by unfold doE; rw [if_neg (by rw [HC0.out]; simp), if_neg (show ¬ (3 : Int) = 1 by decide)]; rw [if_neg (fun e => e HX0.out), if_neg (show ¬ (3 : Int) = 2 by decide), if_neg (fun e => e HY0.out), if_neg (fun e => e.1 hx0), if_pos ⟨hy0, by show 1099511627776 < C (nmOf y) + N; rw [HV1.out.2.2]; exact hov⟩]
                  rw [← HR.out, h2]; exact ⟨rfl, by decide⟩
                clear hov hx0 hy0
                go_wp2_with (go_quiet (fail))
                all_goals
                  go_ret
                  exact ⟨by rw [HE.out.1]; rfl, (H3.out.nope (by repeat (first | exact Turn.refl _ _ | apply Turn.drewN | apply Turn.drew))).none HE.out.2, (HT3.out.trans (by repeat (first | exact Turn.refl _ _ | apply Turn.drewN | apply Turn.drew))).mono fun _ h => h.elim⟩
              · have e5 : decide (1099511627776 < v1 + N) = false := by simpa using hov
                have HOV := Lib.hid hov
                clear hov
                have e5v : ∀ a2, v1 + N = a2 → decide (1099511627776 < a2) = false := fun a2 h => by rw [← h]; exact e5
                have HE : Hid (R = 0 ∧ doE C K ⟨3, nmOf x, nmOf y, N⟩ = 0) := by
                  have h2 : doE C K ⟨3, nmOf x, nmOf y, N⟩ = 0 := by unfold doE; rw [if_neg (by rw [HC0.out]; simp), if_neg (show ¬ (3 : Int) = 1 by decide)]; rw [if_neg (fun e => e HX0.out), if_neg (show ¬ (3 : Int) = 2 by decide), if_neg (fun e => e HY0.out), if_neg (fun e => e.1 hx0), if_neg (fun e => HOV.out (by have h9 : 1099511627776 < C (nmOf y) + N := e.2; rw [HV1.out.2.2] at h9; exact h9))]
                  rw [← HR.out]; exact ⟨h2, h2⟩
                obtain ⟨a1, ha1⟩ : ∃ a1, v0 - N = a1 := ⟨_, rfl⟩
                obtain ⟨a2, ha2⟩ : ∃ a2, v1 + N = a2 := ⟨_, rfl⟩
                have e5w := e5v a2 ha2
                have hr1 : -4611686018427387904 ≤ a1 ∧ a1 ≤ 4611686018427387904 := by have := HV.out; have := HMV.out; omega
                have hr2 : -4611686018427387904 ≤ a2 ∧ a2 ≤ 4611686018427387904 := by have := HV1.out; have := HMV.out; omega
                have hw1 : wrap64 (v0 - N) = a1 := by rw [ha1]; exact IntWalk.wrap64_in _ ⟨by omega, by omega⟩
                have hw1' : IntKind.i64.wrap (v0 - N) = a1 := by rw [ha1]; exact IntWalk.i64_in _ ⟨by omega, by omega⟩
                have hw2 : wrap64 (v1 + N) = a2 := by rw [ha2]; exact IntWalk.wrap64_in _ ⟨by omega, by omega⟩
                have hw2' : IntKind.i64.wrap (v1 + N) = a2 := by rw [ha2]; exact IntWalk.i64_in _ ⟨by omega, by omega⟩
                have hDd := HD3.out.turn (Turn.refl Nope w3).drew fun h => h
                obtain ⟨p1, st1, u1, u2, hent1, hst1, hown1, hg1, hg1'⟩ := hDd.entry (x := x) HN.out.2.1 (by have := HN.out.1; unfold maxLen; omega) (wf_small hr1.1 hr1.2)
                have hC1 := hDd.put hown1 rfl
                rw [if_pos HX0.out] at hC1
                obtain ⟨p2, st2, u3, u4, hent2, hst2, hown2, hg2, hg2'⟩ := hC1.entry (x := y) HN.out.2.2 (by have := HN.out.1; unfold maxLen; omega) (wf_small hr2.1 hr2.2)
                have hC2 := hC1.put hown2 rfl
                rw [if_pos HY0.out] at hC2
                obtain ⟨DD, hDD⟩ : ∃ DD, (D.put (.string (nmOf x)) (.lit (.int .i64 a1))).put (.string (nmOf y)) (.lit (.int .i64 a2)) = DD := ⟨_, rfl⟩
                rw [hDD] at hC2
                clear hDD
                have HO1 := Lib.hid (And.intro hg1' (And.intro hg1 trivial))
                have HO2 := Lib.hid (And.intro (hg1.andThen hg2' fun j hj => .inr hj) (And.intro (hg1.andThen hg2 fun j hj => .inr hj) hC2))
                have HA := Lib.hid (And.intro ha1 ha2)
                have KEEP : Hid (∀ W, (w3.drew).grownBy W (some mb) → W.cell? ⟨s, 0, none⟩ = some (.map (some mb)) ∧ W.cell? ⟨B, 1, none⟩ = some (.string x) ∧ W.cell? ⟨B, 2, none⟩ = some (.string y) ∧ W.cell? ⟨B, 3, none⟩ = some (.int .i64 N)) := fun W hg => by
                  have h1 := blk_grown (w := w3.drew) H3.out.hs hg (fun e => by injection e with e; exact H3.out.ne e.symm)
                  have h2 := blk_grown (w := w3.drew) HB3.out hg (fun e => by injection e with e; obtain ⟨es, clock, hb⟩ := HD3.out.blk; rw [e, HB3.out] at hb; cases hb)
                  exact ⟨by rw [blk_cell h1]; rfl, by rw [blk_cell h2]; rfl, by rw [blk_cell h2]; rfl, by rw [blk_cell h2]; rfl⟩
                clear hr1 hr2 ha1 ha2 hDd hown1 hg1 hg1' hC1 hown2 hg2 hg2' hC2 hx0 hy0
                clear e5v s1
                go_upto_region 26 with (fail)
                refine wp_region_held_drew (S := fun W => W.cell? ⟨s, 0, none⟩ = some (.map (some mb)) ∧ W.cell? ⟨B, 1, none⟩ = some (.string x) ∧ W.cell? ⟨B, 2, none⟩ = some (.string y) ∧ W.cell? ⟨B, 3, none⟩ = some (.int .i64 N)) (by kernel_rfl) ⟨c0, b1, b2, b3⟩ (fun hHeld => ?_)
                refine' wpAnyH_take (i := 0) (v := _) (by simp only [List.getElem?_toArray, List.getElem?_cons_succ, List.getElem?_cons_zero]; rfl) (by kernel_rfl) (by kernel_rfl) (by kernel_rfl) (by intro _ _ _ h; exact h) (Or.inl ⟨by rfl, ?hyzz2_0⟩) hHeld ?restzz2_0
                case hyzz2_0 => (intro w hSw; (try dsimp only at hSw); go_simp; try (with_reducible rfl))
                simp only [Act.put, List.setIfInBounds_toArray, List.set_cons_zero, List.set_cons_succ]
                refine' wpAnyH_take (i := 1) (v := _) (by simp only [List.getElem?_toArray, List.getElem?_cons_succ, List.getElem?_cons_zero]; rfl) (by kernel_rfl) (by kernel_rfl) (by kernel_rfl) (by intro _ _ _ h; exact h) (Or.inl ⟨by rfl, ?hyzz2_1⟩) hHeld ?restzz2_1
                case hyzz2_1 => (intro w hSw; (try dsimp only at hSw); go_simp; try (with_reducible rfl))
                simp only [Act.put, List.setIfInBounds_toArray, List.set_cons_zero, List.set_cons_succ]
                refine' wpAnyH_take (i := 2) (v := _) (by simp only [List.getElem?_toArray, List.getElem?_cons_succ, List.getElem?_cons_zero]; rfl) (by kernel_rfl) (by kernel_rfl) (by kernel_rfl) (by intro _ _ _ h; exact h) (Or.inl ⟨by rfl, ?hyzz2_2⟩) hHeld ?restzz2_2
                case hyzz2_2 => (intro w hSw; (try dsimp only at hSw); go_simp; try (with_reducible rfl))
                simp only [Act.put, List.setIfInBounds_toArray, List.set_cons_zero, List.set_cons_succ]
                refine' wpAnyH_take (i := 3) (v := _) (by simp only [List.getElem?_toArray, List.getElem?_cons_succ, List.getElem?_cons_zero]; rfl) (by kernel_rfl) (by kernel_rfl) (by kernel_rfl) (by intro _ _ _ h; exact h) (Or.inl ⟨by rfl, ?hyzz2_3⟩) hHeld ?restzz2_3
                case hyzz2_3 => (intro w hSw; (try dsimp only at hSw); go_simp; try (with_reducible rfl))
                simp only [Act.put, List.setIfInBounds_toArray, List.set_cons_zero, List.set_cons_succ]
                refine' wpAnyH_take (i := 4) (v := _) (by simp only [List.getElem?_toArray, List.getElem?_cons_succ, List.getElem?_cons_zero]; rfl) (by kernel_rfl) (by kernel_rfl) (by kernel_rfl) (by intro _ _ _ h; exact h) (Or.inl ⟨by rfl, ?hyzz2_4⟩) hHeld ?restzz2_4
                case hyzz2_4 => (intro w hSw; (try dsimp only at hSw); go_simp; try (with_reducible rfl))
                simp only [Act.put, List.setIfInBounds_toArray, List.set_cons_zero, List.set_cons_succ]
                refine' wpAnyH_take (i := 5) (v := _) (by simp only [List.getElem?_toArray, List.getElem?_cons_succ, List.getElem?_cons_zero]; rfl) (by kernel_rfl) (by kernel_rfl) (by kernel_rfl) (by intro _ _ _ h; exact h) (Or.inl ⟨by rfl, ?hyzz2_5⟩) hHeld ?restzz2_5
                case hyzz2_5 => (intro w hSw; (try dsimp only at hSw); go_simp; try (with_reducible rfl))
                simp only [Act.put, List.setIfInBounds_toArray, List.set_cons_zero, List.set_cons_succ]
                refine' wpAnyH_take (i := 6) (v := _) (by simp only [List.getElem?_toArray, List.getElem?_cons_succ, List.getElem?_cons_zero]; rfl) (by kernel_rfl) (by kernel_rfl) (by kernel_rfl) (by intro _ _ _ h; exact h) (Or.inl ⟨by rfl, ?hyzz2_6⟩) hHeld ?restzz2_6
                case hyzz2_6 => (intro w hSw; (try dsimp only at hSw); go_simp; try (with_reducible rfl))
                simp only [Act.put, List.setIfInBounds_toArray, List.set_cons_zero, List.set_cons_succ]
                refine' wpAnyH_take (i := 7) (v := _) (by simp only [List.getElem?_toArray, List.getElem?_cons_succ, List.getElem?_cons_zero]; rfl) (by kernel_rfl) (by kernel_rfl) (by kernel_rfl) (by intro _ _ _ h; exact h) (Or.inl ⟨by rfl, ?hyzz2_7⟩) hHeld ?restzz2_7
                case hyzz2_7 => (intro w hSw; (try dsimp only at hSw); go_simp; try (with_reducible rfl))
                simp only [Act.put, List.setIfInBounds_toArray, List.set_cons_zero, List.set_cons_succ]
                refine' wpAnyH_take (i := 8) (v := _) (by simp only [List.getElem?_toArray, List.getElem?_cons_succ, List.getElem?_cons_zero]; rfl) (by kernel_rfl) (by kernel_rfl) (by kernel_rfl) (by intro _ _ _ h; exact h) (Or.inl ⟨by rfl, ?hyzz2_8⟩) hHeld ?restzz2_8
                case hyzz2_8 => (intro w hSw; (try dsimp only at hSw); go_simp; try (with_reducible rfl))
                simp only [Act.put, List.setIfInBounds_toArray, List.set_cons_zero, List.set_cons_succ]
                refine' wpAnyH_take (i := 9) (v := _) (by simp only [List.getElem?_toArray, List.getElem?_cons_succ, List.getElem?_cons_zero]; rfl) (by kernel_rfl) (by kernel_rfl) (by kernel_rfl) (by intro _ _ _ h; exact h) (Or.inl ⟨by rfl, ?hyzz2_9⟩) hHeld ?restzz2_9
                case hyzz2_9 => (intro w hSw; (try dsimp only at hSw); go_simp; try (with_reducible rfl))
                simp only [Act.put, List.setIfInBounds_toArray, List.set_cons_zero, List.set_cons_succ]
                refine' wpAnyH_take (i := 10) (v := _) (by simp only [List.getElem?_toArray, List.getElem?_cons_succ, List.getElem?_cons_zero]; rfl) (by kernel_rfl) (by kernel_rfl) (by kernel_rfl) (by intro _ _ _ h; exact h) (Or.inl ⟨by rfl, ?hyzz2_10⟩) hHeld ?restzz2_10
                case hyzz2_10 => (intro w hSw; (try dsimp only at hSw); go_simp; try (with_reducible rfl))
                simp only [Act.put, List.setIfInBounds_toArray, List.set_cons_zero, List.set_cons_succ]
                refine' wpAnyH_take (i := 11) (v := _) (by simp only [List.getElem?_toArray, List.getElem?_cons_succ, List.getElem?_cons_zero]; rfl) (by kernel_rfl) (by kernel_rfl) (by kernel_rfl) (by intro _ _ _ h; exact h) (Or.inl ⟨by rfl, ?hyzz2_11⟩) hHeld ?restzz2_11
                case hyzz2_11 => (intro w hSw; (try dsimp only at hSw); go_simp; try (with_reducible rfl))
                simp only [Act.put, List.setIfInBounds_toArray, List.set_cons_zero, List.set_cons_succ]
                refine' wpAnyH_take (i := 12) (v := _) (by simp only [List.getElem?_toArray, List.getElem?_cons_succ, List.getElem?_cons_zero]; rfl) (by kernel_rfl) (by kernel_rfl) (by kernel_rfl) (by intro _ _ _ h; exact h) (Or.inl ⟨by rfl, ?hyzz2_12⟩) hHeld ?restzz2_12
                case hyzz2_12 => (intro w hSw; (try dsimp only at hSw); go_simp; try (with_reducible rfl))
                simp only [Act.put, List.setIfInBounds_toArray, List.set_cons_zero, List.set_cons_succ]
                refine' wpAnyH_take (i := 13) (v := _) (by simp only [List.getElem?_toArray, List.getElem?_cons_succ, List.getElem?_cons_zero]; rfl) (by kernel_rfl) (by kernel_rfl) (by kernel_rfl) (by intro _ _ _ h; exact h) (Or.inl ⟨by rfl, ?hyzz2_13⟩) hHeld ?restzz2_13
                case hyzz2_13 => (intro w hSw; (try dsimp only at hSw); go_simp; try (with_reducible rfl))
                simp only [Act.put, List.setIfInBounds_toArray, List.set_cons_zero, List.set_cons_succ]
                refine' wpAnyH_take (i := 14) (v := _) (by simp only [List.getElem?_toArray, List.getElem?_cons_succ, List.getElem?_cons_zero]; rfl) (by kernel_rfl) (by kernel_rfl) (by kernel_rfl) (by intro _ _ _ h; exact h) (Or.inl ⟨by rfl, ?hyzz2_14⟩) hHeld ?restzz2_14
                case hyzz2_14 => (intro w hSw; (try dsimp only at hSw); go_simp; try (with_reducible rfl))
                simp only [Act.put, List.setIfInBounds_toArray, List.set_cons_zero, List.set_cons_succ]
                refine' wpAnyH_take (i := 15) (v := _) (by simp only [List.getElem?_toArray, List.getElem?_cons_succ, List.getElem?_cons_zero]; rfl) (by kernel_rfl) (by kernel_rfl) (by kernel_rfl) (by intro _ _ _ h; exact h) (Or.inl ⟨by rfl, ?hyzz2_15⟩) hHeld ?restzz2_15
                case hyzz2_15 => (intro w hSw; (try dsimp only at hSw); go_simp; try (with_reducible rfl))
                simp only [Act.put, List.setIfInBounds_toArray, List.set_cons_zero, List.set_cons_succ]
                refine' wpAnyH_take (i := 16) (v := _) (by simp only [List.getElem?_toArray, List.getElem?_cons_succ, List.getElem?_cons_zero]; rfl) (by kernel_rfl) (by kernel_rfl) (by kernel_rfl) (by intro _ _ _ h; exact h) (Or.inl ⟨by rfl, ?hyzz2_16⟩) hHeld ?restzz2_16
                case hyzz2_16 => (intro w hSw; (try dsimp only at hSw); go_simp; try (with_reducible rfl))
                simp only [Act.put, List.setIfInBounds_toArray, List.set_cons_zero, List.set_cons_succ]
                refine' wpAnyH_take (i := 17) (v := _) (by simp only [List.getElem?_toArray, List.getElem?_cons_succ, List.getElem?_cons_zero]; rfl) (by kernel_rfl) (by kernel_rfl) (by kernel_rfl) (by intro _ _ _ h; exact h) (Or.inl ⟨by rfl, ?hyzz2_17⟩) hHeld ?restzz2_17
                case hyzz2_17 => (intro w hSw; (try dsimp only at hSw); go_simp; try (with_reducible rfl))
                simp only [Act.put, List.setIfInBounds_toArray, List.set_cons_zero, List.set_cons_succ]
                refine' wpAnyH_take (i := 18) (v := _) (by simp only [List.getElem?_toArray, List.getElem?_cons_succ, List.getElem?_cons_zero]; rfl) (by kernel_rfl) (by kernel_rfl) (by kernel_rfl) (by intro _ _ _ h; exact h) (Or.inl ⟨by rfl, ?hyzz2_18⟩) hHeld ?restzz2_18
                case hyzz2_18 => (intro w hSw; (try dsimp only at hSw); go_simp; try (with_reducible rfl))
                simp only [Act.put, List.setIfInBounds_toArray, List.set_cons_zero, List.set_cons_succ]
                refine' wpAnyH_take (i := 19) (v := _) (by simp only [List.getElem?_toArray, List.getElem?_cons_succ, List.getElem?_cons_zero]; rfl) (by kernel_rfl) (by kernel_rfl) (by kernel_rfl) (by intro _ _ _ h; exact h) (Or.inl ⟨by rfl, ?hyzz2_19⟩) hHeld ?restzz2_19
                case hyzz2_19 => (intro w hSw; (try dsimp only at hSw); go_simp; try (with_reducible rfl))
                simp only [Act.put, List.setIfInBounds_toArray, List.set_cons_zero, List.set_cons_succ]
                refine wpAnyH_ready (rs := [20]) (by kernel_rfl) (by simp) (AllReadyH.cons (by simp only [List.getElem?_toArray, List.getElem?_cons_succ, List.getElem?_cons_zero]; rfl) (fun KK hKK => ?_) AllReadyH.nil)
                go_simp
                refine hKK.out _ _ ?_ (fun hHeld => ?_)
                · exact KEEP.out _ HO1.out.1
                clear hKK KK
                try simp only [Act.put, List.setIfInBounds_toArray, List.set_cons_zero, List.set_cons_succ]
                refine' wpAnyH_take (i := 21) (v := _) (by simp only [List.getElem?_toArray, List.getElem?_cons_succ, List.getElem?_cons_zero]; rfl) (by kernel_rfl) (by kernel_rfl) (by kernel_rfl) (by intro _ _ _ h; exact h) (Or.inl ⟨by rfl, ?hyzz2_21⟩) hHeld ?restzz2_21
                case hyzz2_21 => (intro w hSw; (try dsimp only at hSw); go_simp; try (with_reducible rfl))
                simp only [Act.put, List.setIfInBounds_toArray, List.set_cons_zero, List.set_cons_succ]
                refine wpAnyH_ready (rs := [22]) (by kernel_rfl) (by simp) (AllReadyH.cons (by simp only [List.getElem?_toArray, List.getElem?_cons_succ, List.getElem?_cons_zero]; rfl) (fun KK hKK => ?_) AllReadyH.nil)
                go_simp
                refine hKK.out _ _ ?_ (fun hHeld => ?_)
                · exact KEEP.out _ HO1.out.2.1
                clear hKK KK
                try simp only [Act.put, List.setIfInBounds_toArray, List.set_cons_zero, List.set_cons_succ]
                refine wpAnyH_ready (rs := [23]) (by kernel_rfl) (by simp) (AllReadyH.cons (by simp only [List.getElem?_toArray, List.getElem?_cons_succ, List.getElem?_cons_zero]; rfl) (fun KK hKK => ?_) AllReadyH.nil)
                go_simp
                refine hKK.out _ _ ?_ (fun hHeld => ?_)
                · exact KEEP.out _ HO2.out.1
                clear hKK KK
                try simp only [Act.put, List.setIfInBounds_toArray, List.set_cons_zero, List.set_cons_succ]
                refine' wpAnyH_take (i := 24) (v := _) (by simp only [List.getElem?_toArray, List.getElem?_cons_succ, List.getElem?_cons_zero]; rfl) (by kernel_rfl) (by kernel_rfl) (by kernel_rfl) (by intro _ _ _ h; exact h) (Or.inl ⟨by rfl, ?hyzz2_24⟩) hHeld ?restzz2_24
                case hyzz2_24 => (intro w hSw; (try dsimp only at hSw); go_simp; try (with_reducible rfl))
                simp only [Act.put, List.setIfInBounds_toArray, List.set_cons_zero, List.set_cons_succ]
                refine wpAnyH_ready (rs := [25]) (by kernel_rfl) (by simp) (AllReadyH.cons (by simp only [List.getElem?_toArray, List.getElem?_cons_succ, List.getElem?_cons_zero]; rfl) (fun KK hKK => ?_) AllReadyH.nil)
                go_simp
                refine hKK.out _ _ ?_ (fun hHeld => ?_)
                · exact KEEP.out _ HO2.out.2.1
                clear hKK KK
                try simp only [Act.put, List.setIfInBounds_toArray, List.set_cons_zero, List.set_cons_succ]
                refine wpAnyH_done (by kernel_rfl) ?_ _
                clear hHeld
                go_wp2_with fail
                go_ret
                refine ⟨by rw [HE.out.1]; rfl, H3.out.same HE.out.2 (D' := DD) ⟨HO2.out.2.1.os, HO2.out.2.1.tape, HO2.out.2.1.output, HO2.out.2.1.size, HO2.out.2.1.block⟩ ?_, (HT3.out.mono (S' := At mb) fun _ h => h.elim).grown (w := w3) ⟨HO2.out.2.1.os, HO2.out.2.1.tape, HO2.out.2.1.output, HO2.out.2.1.size, HO2.out.2.1.block⟩ (fun k hk => .inl (by injection hk with hk; exact hk.symm))⟩
                have h1 := HO2.out.2.2
                have e2 : (fun z => if z = nmOf y then a2 else if z = nmOf x then a1 else C z) = newC C ⟨3, nmOf x, nmOf y, N⟩ := by
                  rw [newC_move (o := ⟨3, nmOf x, nmOf y, N⟩) rfl]; funext z; show _ = (if z = nmOf y then C (nmOf y) + N else if z = nmOf x then C (nmOf x) - N else C z); rw [HV.out.2.2, HV1.out.2.2, HA.out.1, HA.out.2]
                rw [e2] at h1
                exact h1
          · have g1 : x.toList.isEmpty = false := by rw [tl, List.isEmpty_eq_false_iff]; exact hx0
            by_cases hsh : v0 < N
            · have e4 : decide (v0 < N) = true := by simpa using hsh
              have HE : Hid (R = 11 ∧ doE C K ⟨3, nmOf x, nmOf y, N⟩ ≠ 0) := by
                have h2 : doE C K ⟨3, nmOf x, nmOf y, N⟩ = 11 := by unfold doE; rw [if_neg (by rw [HC0.out]; simp), if_neg (show ¬ (3 : Int) = 1 by decide)]; rw [if_neg (fun e => e HX0.out), if_neg (show ¬ (3 : Int) = 2 by decide), if_neg (fun e => e HY0.out), if_pos ⟨hx0, by show C (nmOf x) < N; rw [HV.out.2.2]; exact hsh⟩]
                rw [← HR.out, h2]; exact ⟨rfl, by decide⟩
              clear hsh hx0
              go_wp2_with (go_quiet (fail))
              all_goals
                go_ret
                exact ⟨by rw [HE.out.1]; rfl, (H3.out.nope (by repeat (first | exact Turn.refl _ _ | apply Turn.drewN | apply Turn.drew))).none HE.out.2, (HT3.out.trans (by repeat (first | exact Turn.refl _ _ | apply Turn.drewN | apply Turn.drew))).mono fun _ h => h.elim⟩
            · have e4 : decide (v0 < N) = false := by simpa using hsh
              have HSH := Lib.hid hsh
              clear hsh
              by_cases hy0 : nmOf y = []
              · have g2 : y.toList.isEmpty = true := by rw [tl, hy0]; rfl
                have HE : Hid (R = 0 ∧ doE C K ⟨3, nmOf x, nmOf y, N⟩ = 0) := by
                  have h2 : doE C K ⟨3, nmOf x, nmOf y, N⟩ = 0 := by unfold doE; rw [if_neg (by rw [HC0.out]; simp), if_neg (show ¬ (3 : Int) = 1 by decide)]; rw [if_neg (fun e => e HX0.out), if_neg (show ¬ (3 : Int) = 2 by decide), if_neg (fun e => e HY0.out), if_neg (fun e => HSH.out (by have h9 : C (nmOf x) < N := e.2; rw [HV.out.2.2] at h9; exact h9)), if_neg (fun e => e.1 hy0)]
                  rw [← HR.out]; exact ⟨h2, h2⟩
                obtain ⟨a1, ha1⟩ : ∃ a1, v0 - N = a1 := ⟨_, rfl⟩
                obtain ⟨a2, ha2⟩ : ∃ a2, v1 + N = a2 := ⟨_, rfl⟩
                have hr1 : -4611686018427387904 ≤ a1 ∧ a1 ≤ 4611686018427387904 := by have := HV.out; have := HMV.out; omega
                have hr2 : -4611686018427387904 ≤ a2 ∧ a2 ≤ 4611686018427387904 := by have := HV1.out; have := HMV.out; omega
                have hw1 : wrap64 (v0 - N) = a1 := by rw [ha1]; exact IntWalk.wrap64_in _ ⟨by omega, by omega⟩
                have hw1' : IntKind.i64.wrap (v0 - N) = a1 := by rw [ha1]; exact IntWalk.i64_in _ ⟨by omega, by omega⟩
                have hw2 : wrap64 (v1 + N) = a2 := by rw [ha2]; exact IntWalk.wrap64_in _ ⟨by omega, by omega⟩
                have hw2' : IntKind.i64.wrap (v1 + N) = a2 := by rw [ha2]; exact IntWalk.i64_in _ ⟨by omega, by omega⟩
                have hDd := HD3.out.turn (Turn.refl Nope w3).drew fun h => h
                obtain ⟨p1, st1, u1, u2, hent1, hst1, hown1, hg1, hg1'⟩ := hDd.entry (x := x) HN.out.2.1 (by have := HN.out.1; unfold maxLen; omega) (wf_small hr1.1 hr1.2)
                have hC1 := hDd.put hown1 rfl
                rw [if_pos HX0.out] at hC1
                obtain ⟨p2, st2, u3, u4, hent2, hst2, hown2, hg2, hg2'⟩ := hC1.entry (x := y) HN.out.2.2 (by have := HN.out.1; unfold maxLen; omega) (wf_small hr2.1 hr2.2)
                have hC2 := hC1.put hown2 rfl
                rw [if_pos HY0.out] at hC2
                obtain ⟨DD, hDD⟩ : ∃ DD, (D.put (.string (nmOf x)) (.lit (.int .i64 a1))).put (.string (nmOf y)) (.lit (.int .i64 a2)) = DD := ⟨_, rfl⟩
                rw [hDD] at hC2
                clear hDD
                have HO1 := Lib.hid (And.intro hg1' (And.intro hg1 trivial))
                have HO2 := Lib.hid (And.intro (hg1.andThen hg2' fun j hj => .inr hj) (And.intro (hg1.andThen hg2 fun j hj => .inr hj) hC2))
                have HA := Lib.hid (And.intro ha1 ha2)
                have KEEP : Hid (∀ W, (w3.drew).grownBy W (some mb) → W.cell? ⟨s, 0, none⟩ = some (.map (some mb)) ∧ W.cell? ⟨B, 1, none⟩ = some (.string x) ∧ W.cell? ⟨B, 2, none⟩ = some (.string y) ∧ W.cell? ⟨B, 3, none⟩ = some (.int .i64 N)) := fun W hg => by
                  have h1 := blk_grown (w := w3.drew) H3.out.hs hg (fun e => by injection e with e; exact H3.out.ne e.symm)
                  have h2 := blk_grown (w := w3.drew) HB3.out hg (fun e => by injection e with e; obtain ⟨es, clock, hb⟩ := HD3.out.blk; rw [e, HB3.out] at hb; cases hb)
                  exact ⟨by rw [blk_cell h1]; rfl, by rw [blk_cell h2]; rfl, by rw [blk_cell h2]; rfl, by rw [blk_cell h2]; rfl⟩
                clear hr1 hr2 ha1 ha2 hDd hown1 hg1 hg1' hC1 hown2 hg2 hg2' hC2 hx0 hy0
                go_upto_region 26 with (fail)
                refine wp_region_held_drew (S := fun W => W.cell? ⟨s, 0, none⟩ = some (.map (some mb)) ∧ W.cell? ⟨B, 1, none⟩ = some (.string x) ∧ W.cell? ⟨B, 2, none⟩ = some (.string y) ∧ W.cell? ⟨B, 3, none⟩ = some (.int .i64 N)) (by kernel_rfl) ⟨c0, b1, b2, b3⟩ (fun hHeld => ?_)
                refine' wpAnyH_take (i := 0) (v := _) (by simp only [List.getElem?_toArray, List.getElem?_cons_succ, List.getElem?_cons_zero]; rfl) (by kernel_rfl) (by kernel_rfl) (by kernel_rfl) (by intro _ _ _ h; exact h) (Or.inl ⟨by rfl, ?hyzz3_0⟩) hHeld ?restzz3_0
                case hyzz3_0 => (intro w hSw; (try dsimp only at hSw); go_simp; try (with_reducible rfl))
                simp only [Act.put, List.setIfInBounds_toArray, List.set_cons_zero, List.set_cons_succ]
                refine' wpAnyH_take (i := 1) (v := _) (by simp only [List.getElem?_toArray, List.getElem?_cons_succ, List.getElem?_cons_zero]; rfl) (by kernel_rfl) (by kernel_rfl) (by kernel_rfl) (by intro _ _ _ h; exact h) (Or.inl ⟨by rfl, ?hyzz3_1⟩) hHeld ?restzz3_1
                case hyzz3_1 => (intro w hSw; (try dsimp only at hSw); go_simp; try (with_reducible rfl))
                simp only [Act.put, List.setIfInBounds_toArray, List.set_cons_zero, List.set_cons_succ]
                refine' wpAnyH_take (i := 2) (v := _) (by simp only [List.getElem?_toArray, List.getElem?_cons_succ, List.getElem?_cons_zero]; rfl) (by kernel_rfl) (by kernel_rfl) (by kernel_rfl) (by intro _ _ _ h; exact h) (Or.inl ⟨by rfl, ?hyzz3_2⟩) hHeld ?restzz3_2
                case hyzz3_2 => (intro w hSw; (try dsimp only at hSw); go_simp; try (with_reducible rfl))
                simp only [Act.put, List.setIfInBounds_toArray, List.set_cons_zero, List.set_cons_succ]
                refine' wpAnyH_take (i := 3) (v := _) (by simp only [List.getElem?_toArray, List.getElem?_cons_succ, List.getElem?_cons_zero]; rfl) (by kernel_rfl) (by kernel_rfl) (by kernel_rfl) (by intro _ _ _ h; exact h) (Or.inl ⟨by rfl, ?hyzz3_3⟩) hHeld ?restzz3_3
                case hyzz3_3 => (intro w hSw; (try dsimp only at hSw); go_simp; try (with_reducible rfl))
                simp only [Act.put, List.setIfInBounds_toArray, List.set_cons_zero, List.set_cons_succ]
                refine' wpAnyH_take (i := 4) (v := _) (by simp only [List.getElem?_toArray, List.getElem?_cons_succ, List.getElem?_cons_zero]; rfl) (by kernel_rfl) (by kernel_rfl) (by kernel_rfl) (by intro _ _ _ h; exact h) (Or.inl ⟨by rfl, ?hyzz3_4⟩) hHeld ?restzz3_4
                case hyzz3_4 => (intro w hSw; (try dsimp only at hSw); go_simp; try (with_reducible rfl))
                simp only [Act.put, List.setIfInBounds_toArray, List.set_cons_zero, List.set_cons_succ]
                refine' wpAnyH_take (i := 5) (v := _) (by simp only [List.getElem?_toArray, List.getElem?_cons_succ, List.getElem?_cons_zero]; rfl) (by kernel_rfl) (by kernel_rfl) (by kernel_rfl) (by intro _ _ _ h; exact h) (Or.inl ⟨by rfl, ?hyzz3_5⟩) hHeld ?restzz3_5
                case hyzz3_5 => (intro w hSw; (try dsimp only at hSw); go_simp; try (with_reducible rfl))
                simp only [Act.put, List.setIfInBounds_toArray, List.set_cons_zero, List.set_cons_succ]
                refine' wpAnyH_take (i := 6) (v := _) (by simp only [List.getElem?_toArray, List.getElem?_cons_succ, List.getElem?_cons_zero]; rfl) (by kernel_rfl) (by kernel_rfl) (by kernel_rfl) (by intro _ _ _ h; exact h) (Or.inl ⟨by rfl, ?hyzz3_6⟩) hHeld ?restzz3_6
                case hyzz3_6 => (intro w hSw; (try dsimp only at hSw); go_simp; try (with_reducible rfl))
                simp only [Act.put, List.setIfInBounds_toArray, List.set_cons_zero, List.set_cons_succ]
                refine' wpAnyH_take (i := 7) (v := _) (by simp only [List.getElem?_toArray, List.getElem?_cons_succ, List.getElem?_cons_zero]; rfl) (by kernel_rfl) (by kernel_rfl) (by kernel_rfl) (by intro _ _ _ h; exact h) (Or.inl ⟨by rfl, ?hyzz3_7⟩) hHeld ?restzz3_7
                case hyzz3_7 => (intro w hSw; (try dsimp only at hSw); go_simp; try (with_reducible rfl))
                simp only [Act.put, List.setIfInBounds_toArray, List.set_cons_zero, List.set_cons_succ]
                refine' wpAnyH_take (i := 8) (v := _) (by simp only [List.getElem?_toArray, List.getElem?_cons_succ, List.getElem?_cons_zero]; rfl) (by kernel_rfl) (by kernel_rfl) (by kernel_rfl) (by intro _ _ _ h; exact h) (Or.inl ⟨by rfl, ?hyzz3_8⟩) hHeld ?restzz3_8
                case hyzz3_8 => (intro w hSw; (try dsimp only at hSw); go_simp; try (with_reducible rfl))
                simp only [Act.put, List.setIfInBounds_toArray, List.set_cons_zero, List.set_cons_succ]
                refine' wpAnyH_take (i := 9) (v := _) (by simp only [List.getElem?_toArray, List.getElem?_cons_succ, List.getElem?_cons_zero]; rfl) (by kernel_rfl) (by kernel_rfl) (by kernel_rfl) (by intro _ _ _ h; exact h) (Or.inl ⟨by rfl, ?hyzz3_9⟩) hHeld ?restzz3_9
                case hyzz3_9 => (intro w hSw; (try dsimp only at hSw); go_simp; try (with_reducible rfl))
                simp only [Act.put, List.setIfInBounds_toArray, List.set_cons_zero, List.set_cons_succ]
                refine' wpAnyH_take (i := 10) (v := _) (by simp only [List.getElem?_toArray, List.getElem?_cons_succ, List.getElem?_cons_zero]; rfl) (by kernel_rfl) (by kernel_rfl) (by kernel_rfl) (by intro _ _ _ h; exact h) (Or.inl ⟨by rfl, ?hyzz3_10⟩) hHeld ?restzz3_10
                case hyzz3_10 => (intro w hSw; (try dsimp only at hSw); go_simp; try (with_reducible rfl))
                simp only [Act.put, List.setIfInBounds_toArray, List.set_cons_zero, List.set_cons_succ]
                refine' wpAnyH_take (i := 11) (v := _) (by simp only [List.getElem?_toArray, List.getElem?_cons_succ, List.getElem?_cons_zero]; rfl) (by kernel_rfl) (by kernel_rfl) (by kernel_rfl) (by intro _ _ _ h; exact h) (Or.inl ⟨by rfl, ?hyzz3_11⟩) hHeld ?restzz3_11
                case hyzz3_11 => (intro w hSw; (try dsimp only at hSw); go_simp; try (with_reducible rfl))
                simp only [Act.put, List.setIfInBounds_toArray, List.set_cons_zero, List.set_cons_succ]
                refine' wpAnyH_take (i := 12) (v := _) (by simp only [List.getElem?_toArray, List.getElem?_cons_succ, List.getElem?_cons_zero]; rfl) (by kernel_rfl) (by kernel_rfl) (by kernel_rfl) (by intro _ _ _ h; exact h) (Or.inl ⟨by rfl, ?hyzz3_12⟩) hHeld ?restzz3_12
                case hyzz3_12 => (intro w hSw; (try dsimp only at hSw); go_simp; try (with_reducible rfl))
                simp only [Act.put, List.setIfInBounds_toArray, List.set_cons_zero, List.set_cons_succ]
                refine' wpAnyH_take (i := 13) (v := _) (by simp only [List.getElem?_toArray, List.getElem?_cons_succ, List.getElem?_cons_zero]; rfl) (by kernel_rfl) (by kernel_rfl) (by kernel_rfl) (by intro _ _ _ h; exact h) (Or.inl ⟨by rfl, ?hyzz3_13⟩) hHeld ?restzz3_13
                case hyzz3_13 => (intro w hSw; (try dsimp only at hSw); go_simp; try (with_reducible rfl))
                simp only [Act.put, List.setIfInBounds_toArray, List.set_cons_zero, List.set_cons_succ]
                refine' wpAnyH_take (i := 14) (v := _) (by simp only [List.getElem?_toArray, List.getElem?_cons_succ, List.getElem?_cons_zero]; rfl) (by kernel_rfl) (by kernel_rfl) (by kernel_rfl) (by intro _ _ _ h; exact h) (Or.inl ⟨by rfl, ?hyzz3_14⟩) hHeld ?restzz3_14
                case hyzz3_14 => (intro w hSw; (try dsimp only at hSw); go_simp; try (with_reducible rfl))
                simp only [Act.put, List.setIfInBounds_toArray, List.set_cons_zero, List.set_cons_succ]
                refine' wpAnyH_take (i := 15) (v := _) (by simp only [List.getElem?_toArray, List.getElem?_cons_succ, List.getElem?_cons_zero]; rfl) (by kernel_rfl) (by kernel_rfl) (by kernel_rfl) (by intro _ _ _ h; exact h) (Or.inl ⟨by rfl, ?hyzz3_15⟩) hHeld ?restzz3_15
                case hyzz3_15 => (intro w hSw; (try dsimp only at hSw); go_simp; try (with_reducible rfl))
                simp only [Act.put, List.setIfInBounds_toArray, List.set_cons_zero, List.set_cons_succ]
                refine' wpAnyH_take (i := 16) (v := _) (by simp only [List.getElem?_toArray, List.getElem?_cons_succ, List.getElem?_cons_zero]; rfl) (by kernel_rfl) (by kernel_rfl) (by kernel_rfl) (by intro _ _ _ h; exact h) (Or.inl ⟨by rfl, ?hyzz3_16⟩) hHeld ?restzz3_16
                case hyzz3_16 => (intro w hSw; (try dsimp only at hSw); go_simp; try (with_reducible rfl))
                simp only [Act.put, List.setIfInBounds_toArray, List.set_cons_zero, List.set_cons_succ]
                refine' wpAnyH_take (i := 17) (v := _) (by simp only [List.getElem?_toArray, List.getElem?_cons_succ, List.getElem?_cons_zero]; rfl) (by kernel_rfl) (by kernel_rfl) (by kernel_rfl) (by intro _ _ _ h; exact h) (Or.inl ⟨by rfl, ?hyzz3_17⟩) hHeld ?restzz3_17
                case hyzz3_17 => (intro w hSw; (try dsimp only at hSw); go_simp; try (with_reducible rfl))
                simp only [Act.put, List.setIfInBounds_toArray, List.set_cons_zero, List.set_cons_succ]
                refine' wpAnyH_take (i := 18) (v := _) (by simp only [List.getElem?_toArray, List.getElem?_cons_succ, List.getElem?_cons_zero]; rfl) (by kernel_rfl) (by kernel_rfl) (by kernel_rfl) (by intro _ _ _ h; exact h) (Or.inl ⟨by rfl, ?hyzz3_18⟩) hHeld ?restzz3_18
                case hyzz3_18 => (intro w hSw; (try dsimp only at hSw); go_simp; try (with_reducible rfl))
                simp only [Act.put, List.setIfInBounds_toArray, List.set_cons_zero, List.set_cons_succ]
                refine' wpAnyH_take (i := 19) (v := _) (by simp only [List.getElem?_toArray, List.getElem?_cons_succ, List.getElem?_cons_zero]; rfl) (by kernel_rfl) (by kernel_rfl) (by kernel_rfl) (by intro _ _ _ h; exact h) (Or.inl ⟨by rfl, ?hyzz3_19⟩) hHeld ?restzz3_19
                case hyzz3_19 => (intro w hSw; (try dsimp only at hSw); go_simp; try (with_reducible rfl))
                simp only [Act.put, List.setIfInBounds_toArray, List.set_cons_zero, List.set_cons_succ]
                refine wpAnyH_ready (rs := [20]) (by kernel_rfl) (by simp) (AllReadyH.cons (by simp only [List.getElem?_toArray, List.getElem?_cons_succ, List.getElem?_cons_zero]; rfl) (fun KK hKK => ?_) AllReadyH.nil)
                go_simp
                refine hKK.out _ _ ?_ (fun hHeld => ?_)
                · exact KEEP.out _ HO1.out.1
                clear hKK KK
                try simp only [Act.put, List.setIfInBounds_toArray, List.set_cons_zero, List.set_cons_succ]
                refine' wpAnyH_take (i := 21) (v := _) (by simp only [List.getElem?_toArray, List.getElem?_cons_succ, List.getElem?_cons_zero]; rfl) (by kernel_rfl) (by kernel_rfl) (by kernel_rfl) (by intro _ _ _ h; exact h) (Or.inl ⟨by rfl, ?hyzz3_21⟩) hHeld ?restzz3_21
                case hyzz3_21 => (intro w hSw; (try dsimp only at hSw); go_simp; try (with_reducible rfl))
                simp only [Act.put, List.setIfInBounds_toArray, List.set_cons_zero, List.set_cons_succ]
                refine wpAnyH_ready (rs := [22]) (by kernel_rfl) (by simp) (AllReadyH.cons (by simp only [List.getElem?_toArray, List.getElem?_cons_succ, List.getElem?_cons_zero]; rfl) (fun KK hKK => ?_) AllReadyH.nil)
                go_simp
                refine hKK.out _ _ ?_ (fun hHeld => ?_)
                · exact KEEP.out _ HO1.out.2.1
                clear hKK KK
                try simp only [Act.put, List.setIfInBounds_toArray, List.set_cons_zero, List.set_cons_succ]
                refine wpAnyH_ready (rs := [23]) (by kernel_rfl) (by simp) (AllReadyH.cons (by simp only [List.getElem?_toArray, List.getElem?_cons_succ, List.getElem?_cons_zero]; rfl) (fun KK hKK => ?_) AllReadyH.nil)
                go_simp
                refine hKK.out _ _ ?_ (fun hHeld => ?_)
                · exact KEEP.out _ HO2.out.1
                clear hKK KK
                try simp only [Act.put, List.setIfInBounds_toArray, List.set_cons_zero, List.set_cons_succ]
                refine' wpAnyH_take (i := 24) (v := _) (by simp only [List.getElem?_toArray, List.getElem?_cons_succ, List.getElem?_cons_zero]; rfl) (by kernel_rfl) (by kernel_rfl) (by kernel_rfl) (by intro _ _ _ h; exact h) (Or.inl ⟨by rfl, ?hyzz3_24⟩) hHeld ?restzz3_24
                case hyzz3_24 => (intro w hSw; (try dsimp only at hSw); go_simp; try (with_reducible rfl))
                simp only [Act.put, List.setIfInBounds_toArray, List.set_cons_zero, List.set_cons_succ]
                refine wpAnyH_ready (rs := [25]) (by kernel_rfl) (by simp) (AllReadyH.cons (by simp only [List.getElem?_toArray, List.getElem?_cons_succ, List.getElem?_cons_zero]; rfl) (fun KK hKK => ?_) AllReadyH.nil)
                go_simp
                refine hKK.out _ _ ?_ (fun hHeld => ?_)
                · exact KEEP.out _ HO2.out.2.1
                clear hKK KK
                try simp only [Act.put, List.setIfInBounds_toArray, List.set_cons_zero, List.set_cons_succ]
                refine wpAnyH_done (by kernel_rfl) ?_ _
                clear hHeld
                go_wp2_with fail
                go_ret
                refine ⟨by rw [HE.out.1]; rfl, H3.out.same HE.out.2 (D' := DD) ⟨HO2.out.2.1.os, HO2.out.2.1.tape, HO2.out.2.1.output, HO2.out.2.1.size, HO2.out.2.1.block⟩ ?_, (HT3.out.mono (S' := At mb) fun _ h => h.elim).grown (w := w3) ⟨HO2.out.2.1.os, HO2.out.2.1.tape, HO2.out.2.1.output, HO2.out.2.1.size, HO2.out.2.1.block⟩ (fun k hk => .inl (by injection hk with hk; exact hk.symm))⟩
                have h1 := HO2.out.2.2
                have e2 : (fun z => if z = nmOf y then a2 else if z = nmOf x then a1 else C z) = newC C ⟨3, nmOf x, nmOf y, N⟩ := by
                  rw [newC_move (o := ⟨3, nmOf x, nmOf y, N⟩) rfl]; funext z; show _ = (if z = nmOf y then C (nmOf y) + N else if z = nmOf x then C (nmOf x) - N else C z); rw [HV.out.2.2, HV1.out.2.2, HA.out.1, HA.out.2]
                rw [e2] at h1
                exact h1
              · have g2 : y.toList.isEmpty = false := by rw [tl, List.isEmpty_eq_false_iff]; exact hy0
                have s1 : wrap64 (v1 + N) = v1 + N := IntWalk.wrap64_in _ ⟨by have := HV1.out; have := HMV.out; omega, by have := HV1.out; have := HMV.out; omega⟩
                by_cases hov : 1099511627776 < v1 + N
                · have e5 : decide (1099511627776 < v1 + N) = true := by simpa using hov
                  have HE : Hid (R = 10 ∧ doE C K ⟨3, nmOf x, nmOf y, N⟩ ≠ 0) := by
                    have h2 : doE C K ⟨3, nmOf x, nmOf y, N⟩ = 10 := by unfold doE; rw [if_neg (by rw [HC0.out]; simp), if_neg (show ¬ (3 : Int) = 1 by decide)]; rw [if_neg (fun e => e HX0.out), if_neg (show ¬ (3 : Int) = 2 by decide), if_neg (fun e => e HY0.out), if_neg (fun e => HSH.out (by have h9 : C (nmOf x) < N := e.2; rw [HV.out.2.2] at h9; exact h9)), if_pos ⟨hy0, by show 1099511627776 < C (nmOf y) + N; rw [HV1.out.2.2]; exact hov⟩]
                    rw [← HR.out, h2]; exact ⟨rfl, by decide⟩
                  clear hov hx0 hy0
                  go_wp2_with (go_quiet (fail))
                  all_goals
                    go_ret
                    exact ⟨by rw [HE.out.1]; rfl, (H3.out.nope (by repeat (first | exact Turn.refl _ _ | apply Turn.drewN | apply Turn.drew))).none HE.out.2, (HT3.out.trans (by repeat (first | exact Turn.refl _ _ | apply Turn.drewN | apply Turn.drew))).mono fun _ h => h.elim⟩
                · have e5 : decide (1099511627776 < v1 + N) = false := by simpa using hov
                  have HOV := Lib.hid hov
                  clear hov
                  have e5v : ∀ a2, v1 + N = a2 → decide (1099511627776 < a2) = false := fun a2 h => by rw [← h]; exact e5
                  have HE : Hid (R = 0 ∧ doE C K ⟨3, nmOf x, nmOf y, N⟩ = 0) := by
                    have h2 : doE C K ⟨3, nmOf x, nmOf y, N⟩ = 0 := by unfold doE; rw [if_neg (by rw [HC0.out]; simp), if_neg (show ¬ (3 : Int) = 1 by decide)]; rw [if_neg (fun e => e HX0.out), if_neg (show ¬ (3 : Int) = 2 by decide), if_neg (fun e => e HY0.out), if_neg (fun e => HSH.out (by have h9 : C (nmOf x) < N := e.2; rw [HV.out.2.2] at h9; exact h9)), if_neg (fun e => HOV.out (by have h9 : 1099511627776 < C (nmOf y) + N := e.2; rw [HV1.out.2.2] at h9; exact h9))]
                    rw [← HR.out]; exact ⟨h2, h2⟩
                  obtain ⟨a1, ha1⟩ : ∃ a1, v0 - N = a1 := ⟨_, rfl⟩
                  obtain ⟨a2, ha2⟩ : ∃ a2, v1 + N = a2 := ⟨_, rfl⟩
                  have e5w := e5v a2 ha2
                  have hr1 : -4611686018427387904 ≤ a1 ∧ a1 ≤ 4611686018427387904 := by have := HV.out; have := HMV.out; omega
                  have hr2 : -4611686018427387904 ≤ a2 ∧ a2 ≤ 4611686018427387904 := by have := HV1.out; have := HMV.out; omega
                  have hw1 : wrap64 (v0 - N) = a1 := by rw [ha1]; exact IntWalk.wrap64_in _ ⟨by omega, by omega⟩
                  have hw1' : IntKind.i64.wrap (v0 - N) = a1 := by rw [ha1]; exact IntWalk.i64_in _ ⟨by omega, by omega⟩
                  have hw2 : wrap64 (v1 + N) = a2 := by rw [ha2]; exact IntWalk.wrap64_in _ ⟨by omega, by omega⟩
                  have hw2' : IntKind.i64.wrap (v1 + N) = a2 := by rw [ha2]; exact IntWalk.i64_in _ ⟨by omega, by omega⟩
                  have hDd := HD3.out.turn (Turn.refl Nope w3).drew fun h => h
                  obtain ⟨p1, st1, u1, u2, hent1, hst1, hown1, hg1, hg1'⟩ := hDd.entry (x := x) HN.out.2.1 (by have := HN.out.1; unfold maxLen; omega) (wf_small hr1.1 hr1.2)
                  have hC1 := hDd.put hown1 rfl
                  rw [if_pos HX0.out] at hC1
                  obtain ⟨p2, st2, u3, u4, hent2, hst2, hown2, hg2, hg2'⟩ := hC1.entry (x := y) HN.out.2.2 (by have := HN.out.1; unfold maxLen; omega) (wf_small hr2.1 hr2.2)
                  have hC2 := hC1.put hown2 rfl
                  rw [if_pos HY0.out] at hC2
                  obtain ⟨DD, hDD⟩ : ∃ DD, (D.put (.string (nmOf x)) (.lit (.int .i64 a1))).put (.string (nmOf y)) (.lit (.int .i64 a2)) = DD := ⟨_, rfl⟩
                  rw [hDD] at hC2
                  clear hDD
                  have HO1 := Lib.hid (And.intro hg1' (And.intro hg1 trivial))
                  have HO2 := Lib.hid (And.intro (hg1.andThen hg2' fun j hj => .inr hj) (And.intro (hg1.andThen hg2 fun j hj => .inr hj) hC2))
                  have HA := Lib.hid (And.intro ha1 ha2)
                  have KEEP : Hid (∀ W, (w3.drew).grownBy W (some mb) → W.cell? ⟨s, 0, none⟩ = some (.map (some mb)) ∧ W.cell? ⟨B, 1, none⟩ = some (.string x) ∧ W.cell? ⟨B, 2, none⟩ = some (.string y) ∧ W.cell? ⟨B, 3, none⟩ = some (.int .i64 N)) := fun W hg => by
                    have h1 := blk_grown (w := w3.drew) H3.out.hs hg (fun e => by injection e with e; exact H3.out.ne e.symm)
                    have h2 := blk_grown (w := w3.drew) HB3.out hg (fun e => by injection e with e; obtain ⟨es, clock, hb⟩ := HD3.out.blk; rw [e, HB3.out] at hb; cases hb)
                    exact ⟨by rw [blk_cell h1]; rfl, by rw [blk_cell h2]; rfl, by rw [blk_cell h2]; rfl, by rw [blk_cell h2]; rfl⟩
                  clear hr1 hr2 ha1 ha2 hDd hown1 hg1 hg1' hC1 hown2 hg2 hg2' hC2 hx0 hy0
                  clear e5v s1
                  go_upto_region 26 with (fail)
                  refine wp_region_held_drew (S := fun W => W.cell? ⟨s, 0, none⟩ = some (.map (some mb)) ∧ W.cell? ⟨B, 1, none⟩ = some (.string x) ∧ W.cell? ⟨B, 2, none⟩ = some (.string y) ∧ W.cell? ⟨B, 3, none⟩ = some (.int .i64 N)) (by kernel_rfl) ⟨c0, b1, b2, b3⟩ (fun hHeld => ?_)
                  refine' wpAnyH_take (i := 0) (v := _) (by simp only [List.getElem?_toArray, List.getElem?_cons_succ, List.getElem?_cons_zero]; rfl) (by kernel_rfl) (by kernel_rfl) (by kernel_rfl) (by intro _ _ _ h; exact h) (Or.inl ⟨by rfl, ?hyzz4_0⟩) hHeld ?restzz4_0
                  case hyzz4_0 => (intro w hSw; (try dsimp only at hSw); go_simp; try (with_reducible rfl))
                  simp only [Act.put, List.setIfInBounds_toArray, List.set_cons_zero, List.set_cons_succ]
                  refine' wpAnyH_take (i := 1) (v := _) (by simp only [List.getElem?_toArray, List.getElem?_cons_succ, List.getElem?_cons_zero]; rfl) (by kernel_rfl) (by kernel_rfl) (by kernel_rfl) (by intro _ _ _ h; exact h) (Or.inl ⟨by rfl, ?hyzz4_1⟩) hHeld ?restzz4_1
                  case hyzz4_1 => (intro w hSw; (try dsimp only at hSw); go_simp; try (with_reducible rfl))
                  simp only [Act.put, List.setIfInBounds_toArray, List.set_cons_zero, List.set_cons_succ]
                  refine' wpAnyH_take (i := 2) (v := _) (by simp only [List.getElem?_toArray, List.getElem?_cons_succ, List.getElem?_cons_zero]; rfl) (by kernel_rfl) (by kernel_rfl) (by kernel_rfl) (by intro _ _ _ h; exact h) (Or.inl ⟨by rfl, ?hyzz4_2⟩) hHeld ?restzz4_2
                  case hyzz4_2 => (intro w hSw; (try dsimp only at hSw); go_simp; try (with_reducible rfl))
                  simp only [Act.put, List.setIfInBounds_toArray, List.set_cons_zero, List.set_cons_succ]
                  refine' wpAnyH_take (i := 3) (v := _) (by simp only [List.getElem?_toArray, List.getElem?_cons_succ, List.getElem?_cons_zero]; rfl) (by kernel_rfl) (by kernel_rfl) (by kernel_rfl) (by intro _ _ _ h; exact h) (Or.inl ⟨by rfl, ?hyzz4_3⟩) hHeld ?restzz4_3
                  case hyzz4_3 => (intro w hSw; (try dsimp only at hSw); go_simp; try (with_reducible rfl))
                  simp only [Act.put, List.setIfInBounds_toArray, List.set_cons_zero, List.set_cons_succ]
                  refine' wpAnyH_take (i := 4) (v := _) (by simp only [List.getElem?_toArray, List.getElem?_cons_succ, List.getElem?_cons_zero]; rfl) (by kernel_rfl) (by kernel_rfl) (by kernel_rfl) (by intro _ _ _ h; exact h) (Or.inl ⟨by rfl, ?hyzz4_4⟩) hHeld ?restzz4_4
                  case hyzz4_4 => (intro w hSw; (try dsimp only at hSw); go_simp; try (with_reducible rfl))
                  simp only [Act.put, List.setIfInBounds_toArray, List.set_cons_zero, List.set_cons_succ]
                  refine' wpAnyH_take (i := 5) (v := _) (by simp only [List.getElem?_toArray, List.getElem?_cons_succ, List.getElem?_cons_zero]; rfl) (by kernel_rfl) (by kernel_rfl) (by kernel_rfl) (by intro _ _ _ h; exact h) (Or.inl ⟨by rfl, ?hyzz4_5⟩) hHeld ?restzz4_5
                  case hyzz4_5 => (intro w hSw; (try dsimp only at hSw); go_simp; try (with_reducible rfl))
                  simp only [Act.put, List.setIfInBounds_toArray, List.set_cons_zero, List.set_cons_succ]
                  refine' wpAnyH_take (i := 6) (v := _) (by simp only [List.getElem?_toArray, List.getElem?_cons_succ, List.getElem?_cons_zero]; rfl) (by kernel_rfl) (by kernel_rfl) (by kernel_rfl) (by intro _ _ _ h; exact h) (Or.inl ⟨by rfl, ?hyzz4_6⟩) hHeld ?restzz4_6
                  case hyzz4_6 => (intro w hSw; (try dsimp only at hSw); go_simp; try (with_reducible rfl))
                  simp only [Act.put, List.setIfInBounds_toArray, List.set_cons_zero, List.set_cons_succ]
                  refine' wpAnyH_take (i := 7) (v := _) (by simp only [List.getElem?_toArray, List.getElem?_cons_succ, List.getElem?_cons_zero]; rfl) (by kernel_rfl) (by kernel_rfl) (by kernel_rfl) (by intro _ _ _ h; exact h) (Or.inl ⟨by rfl, ?hyzz4_7⟩) hHeld ?restzz4_7
                  case hyzz4_7 => (intro w hSw; (try dsimp only at hSw); go_simp; try (with_reducible rfl))
                  simp only [Act.put, List.setIfInBounds_toArray, List.set_cons_zero, List.set_cons_succ]
                  refine' wpAnyH_take (i := 8) (v := _) (by simp only [List.getElem?_toArray, List.getElem?_cons_succ, List.getElem?_cons_zero]; rfl) (by kernel_rfl) (by kernel_rfl) (by kernel_rfl) (by intro _ _ _ h; exact h) (Or.inl ⟨by rfl, ?hyzz4_8⟩) hHeld ?restzz4_8
                  case hyzz4_8 => (intro w hSw; (try dsimp only at hSw); go_simp; try (with_reducible rfl))
                  simp only [Act.put, List.setIfInBounds_toArray, List.set_cons_zero, List.set_cons_succ]
                  refine' wpAnyH_take (i := 9) (v := _) (by simp only [List.getElem?_toArray, List.getElem?_cons_succ, List.getElem?_cons_zero]; rfl) (by kernel_rfl) (by kernel_rfl) (by kernel_rfl) (by intro _ _ _ h; exact h) (Or.inl ⟨by rfl, ?hyzz4_9⟩) hHeld ?restzz4_9
                  case hyzz4_9 => (intro w hSw; (try dsimp only at hSw); go_simp; try (with_reducible rfl))
                  simp only [Act.put, List.setIfInBounds_toArray, List.set_cons_zero, List.set_cons_succ]
                  refine' wpAnyH_take (i := 10) (v := _) (by simp only [List.getElem?_toArray, List.getElem?_cons_succ, List.getElem?_cons_zero]; rfl) (by kernel_rfl) (by kernel_rfl) (by kernel_rfl) (by intro _ _ _ h; exact h) (Or.inl ⟨by rfl, ?hyzz4_10⟩) hHeld ?restzz4_10
                  case hyzz4_10 => (intro w hSw; (try dsimp only at hSw); go_simp; try (with_reducible rfl))
                  simp only [Act.put, List.setIfInBounds_toArray, List.set_cons_zero, List.set_cons_succ]
                  refine' wpAnyH_take (i := 11) (v := _) (by simp only [List.getElem?_toArray, List.getElem?_cons_succ, List.getElem?_cons_zero]; rfl) (by kernel_rfl) (by kernel_rfl) (by kernel_rfl) (by intro _ _ _ h; exact h) (Or.inl ⟨by rfl, ?hyzz4_11⟩) hHeld ?restzz4_11
                  case hyzz4_11 => (intro w hSw; (try dsimp only at hSw); go_simp; try (with_reducible rfl))
                  simp only [Act.put, List.setIfInBounds_toArray, List.set_cons_zero, List.set_cons_succ]
                  refine' wpAnyH_take (i := 12) (v := _) (by simp only [List.getElem?_toArray, List.getElem?_cons_succ, List.getElem?_cons_zero]; rfl) (by kernel_rfl) (by kernel_rfl) (by kernel_rfl) (by intro _ _ _ h; exact h) (Or.inl ⟨by rfl, ?hyzz4_12⟩) hHeld ?restzz4_12
                  case hyzz4_12 => (intro w hSw; (try dsimp only at hSw); go_simp; try (with_reducible rfl))
                  simp only [Act.put, List.setIfInBounds_toArray, List.set_cons_zero, List.set_cons_succ]
                  refine' wpAnyH_take (i := 13) (v := _) (by simp only [List.getElem?_toArray, List.getElem?_cons_succ, List.getElem?_cons_zero]; rfl) (by kernel_rfl) (by kernel_rfl) (by kernel_rfl) (by intro _ _ _ h; exact h) (Or.inl ⟨by rfl, ?hyzz4_13⟩) hHeld ?restzz4_13
                  case hyzz4_13 => (intro w hSw; (try dsimp only at hSw); go_simp; try (with_reducible rfl))
                  simp only [Act.put, List.setIfInBounds_toArray, List.set_cons_zero, List.set_cons_succ]
                  refine' wpAnyH_take (i := 14) (v := _) (by simp only [List.getElem?_toArray, List.getElem?_cons_succ, List.getElem?_cons_zero]; rfl) (by kernel_rfl) (by kernel_rfl) (by kernel_rfl) (by intro _ _ _ h; exact h) (Or.inl ⟨by rfl, ?hyzz4_14⟩) hHeld ?restzz4_14
                  case hyzz4_14 => (intro w hSw; (try dsimp only at hSw); go_simp; try (with_reducible rfl))
                  simp only [Act.put, List.setIfInBounds_toArray, List.set_cons_zero, List.set_cons_succ]
                  refine' wpAnyH_take (i := 15) (v := _) (by simp only [List.getElem?_toArray, List.getElem?_cons_succ, List.getElem?_cons_zero]; rfl) (by kernel_rfl) (by kernel_rfl) (by kernel_rfl) (by intro _ _ _ h; exact h) (Or.inl ⟨by rfl, ?hyzz4_15⟩) hHeld ?restzz4_15
                  case hyzz4_15 => (intro w hSw; (try dsimp only at hSw); go_simp; try (with_reducible rfl))
                  simp only [Act.put, List.setIfInBounds_toArray, List.set_cons_zero, List.set_cons_succ]
                  refine' wpAnyH_take (i := 16) (v := _) (by simp only [List.getElem?_toArray, List.getElem?_cons_succ, List.getElem?_cons_zero]; rfl) (by kernel_rfl) (by kernel_rfl) (by kernel_rfl) (by intro _ _ _ h; exact h) (Or.inl ⟨by rfl, ?hyzz4_16⟩) hHeld ?restzz4_16
                  case hyzz4_16 => (intro w hSw; (try dsimp only at hSw); go_simp; try (with_reducible rfl))
                  simp only [Act.put, List.setIfInBounds_toArray, List.set_cons_zero, List.set_cons_succ]
                  refine' wpAnyH_take (i := 17) (v := _) (by simp only [List.getElem?_toArray, List.getElem?_cons_succ, List.getElem?_cons_zero]; rfl) (by kernel_rfl) (by kernel_rfl) (by kernel_rfl) (by intro _ _ _ h; exact h) (Or.inl ⟨by rfl, ?hyzz4_17⟩) hHeld ?restzz4_17
                  case hyzz4_17 => (intro w hSw; (try dsimp only at hSw); go_simp; try (with_reducible rfl))
                  simp only [Act.put, List.setIfInBounds_toArray, List.set_cons_zero, List.set_cons_succ]
                  refine' wpAnyH_take (i := 18) (v := _) (by simp only [List.getElem?_toArray, List.getElem?_cons_succ, List.getElem?_cons_zero]; rfl) (by kernel_rfl) (by kernel_rfl) (by kernel_rfl) (by intro _ _ _ h; exact h) (Or.inl ⟨by rfl, ?hyzz4_18⟩) hHeld ?restzz4_18
                  case hyzz4_18 => (intro w hSw; (try dsimp only at hSw); go_simp; try (with_reducible rfl))
                  simp only [Act.put, List.setIfInBounds_toArray, List.set_cons_zero, List.set_cons_succ]
                  refine' wpAnyH_take (i := 19) (v := _) (by simp only [List.getElem?_toArray, List.getElem?_cons_succ, List.getElem?_cons_zero]; rfl) (by kernel_rfl) (by kernel_rfl) (by kernel_rfl) (by intro _ _ _ h; exact h) (Or.inl ⟨by rfl, ?hyzz4_19⟩) hHeld ?restzz4_19
                  case hyzz4_19 => (intro w hSw; (try dsimp only at hSw); go_simp; try (with_reducible rfl))
                  simp only [Act.put, List.setIfInBounds_toArray, List.set_cons_zero, List.set_cons_succ]
                  refine wpAnyH_ready (rs := [20]) (by kernel_rfl) (by simp) (AllReadyH.cons (by simp only [List.getElem?_toArray, List.getElem?_cons_succ, List.getElem?_cons_zero]; rfl) (fun KK hKK => ?_) AllReadyH.nil)
                  go_simp
                  refine hKK.out _ _ ?_ (fun hHeld => ?_)
                  · exact KEEP.out _ HO1.out.1
                  clear hKK KK
                  try simp only [Act.put, List.setIfInBounds_toArray, List.set_cons_zero, List.set_cons_succ]
                  refine' wpAnyH_take (i := 21) (v := _) (by simp only [List.getElem?_toArray, List.getElem?_cons_succ, List.getElem?_cons_zero]; rfl) (by kernel_rfl) (by kernel_rfl) (by kernel_rfl) (by intro _ _ _ h; exact h) (Or.inl ⟨by rfl, ?hyzz4_21⟩) hHeld ?restzz4_21
                  case hyzz4_21 => (intro w hSw; (try dsimp only at hSw); go_simp; try (with_reducible rfl))
                  simp only [Act.put, List.setIfInBounds_toArray, List.set_cons_zero, List.set_cons_succ]
                  refine wpAnyH_ready (rs := [22]) (by kernel_rfl) (by simp) (AllReadyH.cons (by simp only [List.getElem?_toArray, List.getElem?_cons_succ, List.getElem?_cons_zero]; rfl) (fun KK hKK => ?_) AllReadyH.nil)
                  go_simp
                  refine hKK.out _ _ ?_ (fun hHeld => ?_)
                  · exact KEEP.out _ HO1.out.2.1
                  clear hKK KK
                  try simp only [Act.put, List.setIfInBounds_toArray, List.set_cons_zero, List.set_cons_succ]
                  refine wpAnyH_ready (rs := [23]) (by kernel_rfl) (by simp) (AllReadyH.cons (by simp only [List.getElem?_toArray, List.getElem?_cons_succ, List.getElem?_cons_zero]; rfl) (fun KK hKK => ?_) AllReadyH.nil)
                  go_simp
                  refine hKK.out _ _ ?_ (fun hHeld => ?_)
                  · exact KEEP.out _ HO2.out.1
                  clear hKK KK
                  try simp only [Act.put, List.setIfInBounds_toArray, List.set_cons_zero, List.set_cons_succ]
                  refine' wpAnyH_take (i := 24) (v := _) (by simp only [List.getElem?_toArray, List.getElem?_cons_succ, List.getElem?_cons_zero]; rfl) (by kernel_rfl) (by kernel_rfl) (by kernel_rfl) (by intro _ _ _ h; exact h) (Or.inl ⟨by rfl, ?hyzz4_24⟩) hHeld ?restzz4_24
                  case hyzz4_24 => (intro w hSw; (try dsimp only at hSw); go_simp; try (with_reducible rfl))
                  simp only [Act.put, List.setIfInBounds_toArray, List.set_cons_zero, List.set_cons_succ]
                  refine wpAnyH_ready (rs := [25]) (by kernel_rfl) (by simp) (AllReadyH.cons (by simp only [List.getElem?_toArray, List.getElem?_cons_succ, List.getElem?_cons_zero]; rfl) (fun KK hKK => ?_) AllReadyH.nil)
                  go_simp
                  refine hKK.out _ _ ?_ (fun hHeld => ?_)
                  · exact KEEP.out _ HO2.out.2.1
                  clear hKK KK
                  try simp only [Act.put, List.setIfInBounds_toArray, List.set_cons_zero, List.set_cons_succ]
                  refine wpAnyH_done (by kernel_rfl) ?_ _
                  clear hHeld
                  go_wp2_with fail
                  go_ret
                  refine ⟨by rw [HE.out.1]; rfl, H3.out.same HE.out.2 (D' := DD) ⟨HO2.out.2.1.os, HO2.out.2.1.tape, HO2.out.2.1.output, HO2.out.2.1.size, HO2.out.2.1.block⟩ ?_, (HT3.out.mono (S' := At mb) fun _ h => h.elim).grown (w := w3) ⟨HO2.out.2.1.os, HO2.out.2.1.tape, HO2.out.2.1.output, HO2.out.2.1.size, HO2.out.2.1.block⟩ (fun k hk => .inl (by injection hk with hk; exact hk.symm))⟩
                  have h1 := HO2.out.2.2
                  have e2 : (fun z => if z = nmOf y then a2 else if z = nmOf x then a1 else C z) = newC C ⟨3, nmOf x, nmOf y, N⟩ := by
                    rw [newC_move (o := ⟨3, nmOf x, nmOf y, N⟩) rfl]; funext z; show _ = (if z = nmOf y then C (nmOf y) + N else if z = nmOf x then C (nmOf x) - N else C z); rw [HV.out.2.2, HV1.out.2.2, HA.out.1, HA.out.2]
                  rw [e2] at h1
                  exact h1
        · have hT1 : T1 = false := by cases T1 with | false => rfl | true => exact absurd (HT1'.out.1 rfl) h1
          subst hT1
          have HE : Hid (R = 8 ∧ doE C K ⟨3, nmOf x, nmOf y, N⟩ ≠ 0) := by
            have h2 : doE C K ⟨3, nmOf x, nmOf y, N⟩ = 8 := by unfold doE; rw [if_neg (by rw [HC0.out]; simp), if_neg (show ¬ (3 : Int) = 1 by decide)]; rw [if_neg (fun e => e HX0.out), if_neg (show ¬ (3 : Int) = 2 by decide), if_pos h1]
            rw [← HR.out, h2]; exact ⟨rfl, by decide⟩
          clear h1
          go_wp2_with (go_quiet (fail))
          all_goals
            go_ret
            exact ⟨by rw [HE.out.1]; rfl, (H3.out.nope (by repeat (first | exact Turn.refl _ _ | apply Turn.drewN | apply Turn.drew))).none HE.out.2, (HT3.out.trans (by repeat (first | exact Turn.refl _ _ | apply Turn.drewN | apply Turn.drew))).mono fun _ h => h.elim⟩
      · have hTf : T = false := by cases T with | false => rfl | true => exact absurd (HT.out.1 rfl) h0
        subst hTf
        have HE : Hid (R = 8 ∧ doE C K ⟨3, nmOf x, nmOf y, N⟩ ≠ 0) := by
          have h2 : doE C K ⟨3, nmOf x, nmOf y, N⟩ = 8 := by unfold doE; rw [if_neg (by rw [HC0.out]; simp), if_neg (show ¬ (3 : Int) = 1 by decide)]; rw [if_pos h0]
          rw [← HR.out, h2]; exact ⟨rfl, by decide⟩
        clear h0
        go_wp2_with (go_quiet (fail))
        all_goals
          go_ret
          exact ⟨by rw [HE.out.1]; rfl, (H2.out.nope (by repeat (first | exact Turn.refl _ _ | apply Turn.drewN | apply Turn.drew))).none HE.out.2, (HT2.out.trans (by repeat (first | exact Turn.refl _ _ | apply Turn.drewN | apply Turn.drew))).mono fun _ h => h.elim⟩
  · have z0 : (c != 0) = true := by simpa using hc0
    have HE : Hid (R = c ∧ doE C K ⟨kd, nmOf x, nmOf y, N⟩ ≠ 0) := by
      have h1 : chk ⟨kd, nmOf x, nmOf y, N⟩ ≠ 0 := by rw [HC.out]; exact hc0
      have h2 := doE_chk (C := C) (K := K) h1
      rw [← HR.out, h2, HC.out]
      exact ⟨rfl, hc0⟩
    clear hc0
    go_wp2_with fail
    go_ret
    exact ⟨by rw [HE.out.1]; rfl, H1.out.none HE.out.2, HT1.out.mono fun _ h => h.elim⟩
end Go.Proofs.Yteggenihjhclkaa.Lg
set_option maxRecDepth 16000
set_option linter.unusedVariables false
set_option linter.unusedSimpArgs false
namespace Go.Proofs.Yteggenihjhclkaa.Lg
open Go.RowKit Go.Maps
variable {C : Nm → Int} {K : List Nm} {w0 w w' : World} {s mb n : Nat} {D : Dm} {o : Op4}
def sumK (C : Nm → Int) (K : List Nm) : Int := (K.map C).sum
theorem sum_cons (C : Nm → Int) (x : Nm) (L : List Nm) : sumK C (x :: L) = C x + sumK C L := by simp [sumK]
theorem sum_perm (C : Nm → Int) {L K : List Nm} (h : L.Perm K) : sumK C L = sumK C K := by
  induction h with
  | nil => rfl
  | cons x _ ih => rw [sum_cons, sum_cons, ih]
  | swap x y l => rw [sum_cons, sum_cons, sum_cons, sum_cons]; omega
  | trans _ _ ih1 ih2 => exact ih1.trans ih2
theorem sum_bound (h : Sh w0 w s mb n C K) (hn : n ≤ 1000) : ∀ L : List Nm, L.length ≤ 20 → -((L.length : Int) * 1200000000000000) ≤ sumK C L ∧ sumK C L ≤ (L.length : Int) * 1200000000000000
  | [], _ => by simp [sumK]
  | x :: L, hl => by
    have h1 := val_bound h hn x
    simp only [List.length_cons] at hl
    have h2 := sum_bound h hn L (by omega)
    rw [sum_cons, List.length_cons]
    omega
theorem same_perm {L K : List Nm} (hL : L.Nodup) (hK : K.Nodup) (h : ∀ x, x ∈ L ↔ x ∈ K) : L.Perm K :=
  List.perm_iff_count.2 fun x => by
    rw [hL.count, hK.count]
    by_cases hx : x ∈ L
    · rw [if_pos hx, if_pos ((h x).1 hx)]
    · rw [if_neg hx, if_neg fun e => hx ((h x).2 e)]
/-- In the middle of the range. -/
structure SumW (w wr : World) (mb rb n : Nat) (D : Dm) (K L : List Nm) (left : Lit → Bool) (k : Nat) : Prop where
  rg : wr.ranges Try.prog 9 (plainElem (H := Unit) Try.prog 3) mb rb n D left k
  tn : Turn Nope w wr
  nd : L.Nodup
  out : ∀ x ∈ L, x ∈ K ∧ left (.string x) = false
  all : ∀ x ∈ K, x ∈ L ∨ left (.string x) = true
  len : L.length + k ≤ 20
  wb : w.heap.size ≤ rb
end Go.Proofs.Yteggenihjhclkaa.Lg
set_option maxRecDepth 16000
set_option linter.unusedVariables false
namespace Go.Proofs.Yteggenihjhclkaa.Lg
open Go.RowKit Go.Maps
variable {C : Nm → Int} {K : List Nm} {o : Op4}
theorem sum_congr {C' : Nm → Int} : ∀ L : List Nm, (∀ x ∈ L, C x = C' x) → sumK C L = sumK C' L
  | [], _ => rfl
  | x :: L, h => by rw [sum_cons, sum_cons, h x List.mem_cons_self, sum_congr L fun y hy => h y (List.mem_cons_of_mem _ hy)]
theorem sum_put (h : Book C K) (hs : sumK C K = 0) (hd : doE C K o = 0) : sumK (newC C o) (newK K o) = 0 := by
  obtain ⟨hc, h1, h2, h3⟩ := doE_ok hd
  obtain ⟨c1, c2, c3, c4, c5, c6⟩ := chk_ok hc
  by_cases hk3 : o.k = 3
  · obtain ⟨a1, a2, a3, a4⟩ := h3 hk3
    obtain ⟨b1, b2, b3⟩ := c5 hk3
    have hK : newK K o = K := by unfold newK; rw [if_neg (by omega), if_neg (by omega)]
    have p1 := List.perm_cons_erase a1
    have p2 := List.perm_cons_erase ((List.mem_erase_of_ne (fun e => b1 e.symm)).2 a2 : o.dt ∈ K.erase o.nm)
    have p := p1.trans (p2.cons o.nm)
    have hn := (p.nodup_iff).1 h.nd
    have hn1 := List.nodup_cons.1 hn
    have hn2 := List.nodup_cons.1 hn1.2
    rw [hK, sum_perm _ p, sum_cons, sum_cons]
    rw [sum_perm _ p, sum_cons, sum_cons] at hs
    have e : sumK (newC C o) ((K.erase o.nm).erase o.dt) = sumK C ((K.erase o.nm).erase o.dt) := sum_congr _ fun x hx => by
      rw [newC_move hk3]
      show (if x = o.dt then _ else if x = o.nm then _ else _) = _
      rw [if_neg (fun e => absurd hx (by rw [e]; exact hn2.1)), if_neg (fun e => absurd (List.mem_cons_of_mem o.dt hx) (by rw [e]; exact hn1.1))]
    have v1 : newC C o o.dt = C o.dt + o.N := by rw [newC_move hk3]; show (if o.dt = o.dt then _ else _) = _; rw [if_pos rfl]
    have v2 : newC C o o.nm = C o.nm - o.N := by rw [newC_move hk3]; show (if o.nm = o.dt then _ else if o.nm = o.nm then _ else _) = _; rw [if_neg b1, if_pos rfl]
    rw [e, v1, v2]
    omega
  · rw [newC_stay hk3]
    by_cases hk1 : o.k = 1
    · have hK : newK K o = o.nm :: K := by unfold newK; rw [if_pos hk1]
      rw [hK, sum_cons, h.out _ (h1 hk1).1, hs]; rfl
    · have hk2 : o.k = 2 := by omega
      have hK : newK K o = K.erase o.nm := by unfold newK; rw [if_neg hk1, if_pos hk2]
      have p := List.perm_cons_erase (h2 hk2).1
      rw [sum_perm _ p, sum_cons, (h2 hk2).2] at hs
      rw [hK]; omega
theorem sum_did (h : Book C K) (hs : sumK C K = 0) : sumK (doC C K o) (doK C K o) = 0 := by
  unfold doC doK
  by_cases hd : doE C K o = 0
  · rw [if_pos hd, if_pos hd]; exact sum_put h hs hd
  · rw [if_neg hd, if_neg hd]; exact hs
end Go.Proofs.Yteggenihjhclkaa.Lg
set_option maxRecDepth 16000
set_option linter.unusedVariables false
set_option linter.unusedSimpArgs false
namespace Go.Proofs.Yteggenihjhclkaa.Lg
open Go.RowKit Go.Maps
variable {C : Nm → Int} {K : List Nm} {w0 w w' : World} {s mb n : Nat} {D : Dm} {o : Op4}
/-- One good's bytes. -/
def goodBs (C : Nm → Int) (x : Nm) : List Nat := num x.length ++ x.map UInt8.toNat ++ num (C x).toNat
def saveBs (C : Nm → Int) (L : List Nm) : List Nat := num L.length ++ L.flatMap (goodBs C)
/-- A shelf's bytes. -/
def savedS (C : Nm → Int) (K : List Nm) : ByteArray := bstr (saveBs C (accs K))
theorem good_lt (C : Nm → Int) (x : Nm) : ∀ y ∈ goodBs C x, y < 256 := by
  intro y hy
  unfold goodBs at hy
  rcases List.mem_append.1 hy with hy | hy
  · rcases List.mem_append.1 hy with hy | hy
    · exact num_lt _ y hy
    · obtain ⟨c, _, rfl⟩ := List.mem_map.1 hy
      exact c.toNat_lt
  · exact num_lt _ y hy
theorem save_lt (C : Nm → Int) (L : List Nm) : ∀ y ∈ saveBs C L, y < 256 := by
  intro y hy
  unfold saveBs at hy
  rcases List.mem_append.1 hy with hy | hy
  · exact num_lt _ y hy
  · obtain ⟨x, _, hx⟩ := List.mem_flatMap.1 hy
    exact good_lt C x y hx
theorem nb_arr (x : Nm) : nb ⟨x.toArray⟩ = x.map UInt8.toNat := by simp [nb]
theorem good_len {C : Nm → Int} {x : Nm} (hx : x.length ≤ 12) (hc : C x ≤ 1099511627776) : (goodBs C x).length ≤ 40 := by
  unfold goodBs
  have h1 := num_le x.length (by omega)
  have h2 := num_le (C x).toNat (by omega)
  simp only [List.length_append, List.length_map]
  omega
/-- In the middle of the goods. -/
structure SaveW (w0 w wr : World) (s mb n g i : Nat) (v : Value) (C : Nm → Int) (K L : List Nm) : Prop where
  wb : WrB wr w.heap.size g (num L.length ++ (L.take i).flatMap (goodBs C))
  tn : Turn Nope w wr
  row : wr.ownsRow w.heap.size 9 1 v (L.length + 1) (encs ([] :: L))
  len : (num L.length ++ (L.take i).flatMap (goodBs C)).length ≤ 10 + 40 * i
theorem own_kept2 {b e size m : Nat} {v : Value} {xs : List Value} (h : w.ownsRow b e size v m xs) (hk : Kept2 w w') (h5 : e ≠ 5) (h49 : e ≠ 114) : w'.ownsRow b e size v m xs := by
  refine ⟨h.1, ?_⟩
  rcases h.2 with hn | ⟨g, cap, cur, hv, hb, hh, rest⟩
  · exact .inl hn
  · exact .inr ⟨g, cap, cur, hv, hb, hk g cur e h5 h49 hh, rest⟩
theorem own_lower {b b' e size m : Nat} {v : Value} {xs : List Value} (h : w.ownsRow b e size v m xs) (hb : b' ≤ b) : w.ownsRow b' e size v m xs := by
  refine ⟨h.1, ?_⟩
  rcases h.2 with hn | ⟨g, cap, cur, hv, hg, rest⟩
  · exact .inl hn
  · exact .inr ⟨g, cap, cur, hv, Nat.le_trans hb hg, rest⟩
theorem u64_small {c : Int} (h0 : 0 ≤ c) (h1 : c ≤ 1099511627776) : IntKind.u64.wrap c = c := by
  unfold IntKind.wrap; simp [IntKind.bits, IntKind.signed]; omega
set_option maxHeartbeats 8000000 in
theorem save_any (h : Sh w0 w s mb n C K) : Calls Try.prog 77 #[.pointer (some ⟨s, 0, none⟩)] w fun e w' => e = .returned (.string (savedS C K)) ∧ Turn Nope w w' := by
  have H0 := Lib.hid h
  have hu : IntKind.u64.wrap (((accs K).length : Nat) : Int) = ((accs K).length : Int) := u64_small (by omega) (by have := h.good.le; have := accs_length h.good.house; omega)
  have HU := Lib.hid hu
  clear h hu
  go_enter Try.func77, Try.ntmps77
  go_wp2_with fail
  obtain ⟨g, hg⟩ : ∃ g, w.heap.size = g := ⟨_, rfl⟩
  have HWR0 : Hid (WrB (w.alloc (.cells #[.slice none 0 0] 114)) w.heap.size g []) := by rw [← hg]; exact WrB.new w _ (Nat.le_refl _)
  rw [hg]
  clear hg
  have H1 := Lib.hid (H0.out.nope ((Turn.refl _ _).alloc (.cells #[.slice none 0 0] 114)))
  refine (names_any H1.out).mono ?_
  rintro e w1 ⟨v, rfl, hv, ht⟩
  obtain ⟨A, cc, gr, cap, rfl, hcc, hA, hrow⟩ := hv
  have hu := HU.out
  obtain ⟨L, hL⟩ : ∃ L, accs K = L := ⟨_, rfl⟩
  have HL : Hid (L.length ≤ 16 ∧ ∀ x ∈ L, x.length ≤ 12 ∧ 0 ≤ C x ∧ C x ≤ 1099511627776) := by
    rw [← hL]
    have h1 := accs_length H0.out.good.house
    have h2 := H0.out.good.le
    refine ⟨by omega, fun x hx => ?_⟩
    have hx := (accs_mem H0.out.good.nd H0.out.good.house x).1 hx
    exact ⟨H0.out.good.nm x hx.1, H0.out.good.lo x hx.2, H0.out.good.hi x hx.2⟩
  have HSV : Hid (savedS C K = bstr (saveBs C L)) := by show savedS C K = _; unfold savedS; rw [hL]
  rw [hL] at hrow hA hcc hu ⊢
  have HA := Lib.hid (And.intro hA hcc)
  have HW1 := Lib.hid (And.intro (HWR0.out.nope ht) (And.intro (((Turn.refl Nope w).alloc (.cells #[.slice none 0 0] 114)).trans ht) (own_lower (b' := w.heap.size) hrow (by simp))))
  clear hL hA hcc hrow ht H1 HU
  go_wp2_with fail
  clear hu
  refine (num_mine L.length (by have := HL.out.1; omega) _ HW1.out.1 (by simp)).mono ?_
  rintro e w2 ⟨rfl, hwr, hb, hk⟩
  have HW2 : Hid (SaveW w0 w w2 s mb n g 0 (.slice (some ⟨gr, 0, none⟩) (L.length + 1) cap) C K L) := by
    refine ⟨?_, Turn.toNope (HW1.out.2.1.nopeBelow.trans hb), own_kept2 HW1.out.2.2 hk (by decide) (by decide), ?_⟩
    · rw [List.nil_append] at hwr
      simpa using hwr
    · have := num_le L.length (by have := HL.out.1; omega)
      simpa using this
  clear hwr hb hk HW1 HWR0
  go_wp2_with fail
  go_loopg [15] L.length (fun kk v15 wr => ∃ (i : Nat), v15 = .int .i64 (i : Int) ∧ Hid (kk + i = L.length) ∧ Hid (SaveW w0 w wr s mb n g i (.slice (some ⟨gr, 0, none⟩) (L.length + 1) cap) C K L))
  case atStart => exact ⟨0, rfl, rfl, HW2.out⟩
  case round =>
    obtain ⟨i, rfl, hk, hW⟩ := hrel
    clear HW2
    by_cases hlt : i < L.length
    · have b1 : decide ((i : Int) < (L.length : Int)) = true := by simp; omega
      have b1n : decide (i < L.length) = true := by simp; omega
      have i0 : (0 : Int) ≤ (i : Int) := by omega
      have i1 : (i : Int) < (L.length : Int) := by omega
      have hw : wrap64 ((i : Int) + 1) = (i : Int) + 1 := IntWalk.wrap64_in _ ⟨by omega, by have := HL.out.1; omega⟩
      have HWR := Lib.hid hw
      have HLT := Lib.hid hlt
      obtain ⟨x, hx⟩ : ∃ x, L[i]? = some x := ⟨_, List.getElem?_eq_getElem hlt⟩
      obtain rfl := HA.out.1 (by omega)
      have hcc := HA.out.2
      have c0' : (wr.cell? ⟨gr, i + 1, none⟩) = some (.string ⟨x.toArray⟩) := own_elem hW.out.row (i + 1) (u := encStr x) (by simp [encs, hx])
      have c0 : (wr.cell? ⟨gr, 1 + i, none⟩) = some (.string ⟨x.toArray⟩) := by rw [Nat.add_comm]; exact c0'
      have i2 : (i : Int) < (cc : Int) := by omega
      have HXI := Lib.hid hx
      have HX : Hid ((0 ≤ C x ∧ C x ≤ 1099511627776) ∧ x.length ≤ 12) := ⟨(HL.out.2 x (List.mem_of_getElem? hx)).2, (HL.out.2 x (List.mem_of_getElem? hx)).1⟩
      obtain ⟨cn, hcn⟩ : ∃ cn : Nat, C x = (cn : Int) := ⟨(C x).toNat, by have := HX.out.1.1; omega⟩
      have HCN : Hid (C x = (cn : Int) ∧ (C x).toNat = cn ∧ cn ≤ 1099511627776) := by have := HX.out.1.2; exact ⟨hcn, by omega, by omega⟩
      have hu : IntKind.u64.wrap (cn : Int) = (cn : Int) := u64_small (by omega) (by have := HCN.out.2.2; omega)
      have FL : Hid (∀ W, Turn Nope w W → (Instr.lookup 90 (.map (some mb)) (.string ⟨x.toArray⟩) false).run Try.prog W = .ok (.int .i64 (cn : Int)) W) := fun W h => by
        rw [← HCN.out.1]
        obtain ⟨D, hD⟩ := (H0.out.nope h).map
        have := hD.look1 (x := ⟨x.toArray⟩) (by show x.toArray.size ≤ maxLen; have := HX.out.2; simp; unfold maxLen; omega)
        simpa using this
      clear hw hlt hx hcn
      go_upto_region 7 with (fail)
      clear c0 c0' i0 i1 i2 b1 b1n hcc
      refine wp_region_held_drew (S := fun W => W.cell? ⟨s, 0, none⟩ = some (.map (some mb)) ∧ (Instr.lookup 90 (.map (some mb)) (.string ⟨x.toArray⟩) false).run Try.prog W = .ok (.int .i64 (cn : Int)) W) (by kernel_rfl) ⟨(H0.out.nope (hW.out.tn.trans (Turn.refl _ _).drew)).cell, FL.out _ (hW.out.tn.trans (Turn.refl _ _).drew)⟩ (fun hHeld => ?_)
      refine' wpAnyH_take (i := 0) (v := _) (by simp only [List.getElem?_toArray, List.getElem?_cons_succ, List.getElem?_cons_zero]; rfl) (by kernel_rfl) (by kernel_rfl) (by kernel_rfl) (by intro _ _ _ h; exact h) (Or.inl ⟨by rfl, ?hyv60⟩) hHeld ?restv60
      case hyv60 => (intro w hSw; (try dsimp only at hSw); go_simp; try (with_reducible rfl))
      simp only [Act.put, List.setIfInBounds_toArray, List.set_cons_zero, List.set_cons_succ]
      refine' wpAnyH_take (i := 2) (v := _) (by simp only [List.getElem?_toArray, List.getElem?_cons_succ, List.getElem?_cons_zero]; rfl) (by kernel_rfl) (by kernel_rfl) (by kernel_rfl) (by intro _ _ _ h; exact h) (Or.inl ⟨by rfl, ?hyv62⟩) hHeld ?restv62
      case hyv62 => (intro w hSw; (try dsimp only at hSw); go_simp; try (with_reducible rfl))
      simp only [Act.put, List.setIfInBounds_toArray, List.set_cons_zero, List.set_cons_succ]
      refine' wpAnyH_take (i := 3) (v := _) (by simp only [List.getElem?_toArray, List.getElem?_cons_succ, List.getElem?_cons_zero]; rfl) (by kernel_rfl) (by kernel_rfl) (by kernel_rfl) (by intro _ _ _ h; exact h) (Or.inl ⟨by rfl, ?hyv63⟩) hHeld ?restv63
      case hyv63 => (intro w hSw; (try dsimp only at hSw); go_simp; try (with_reducible rfl))
      simp only [Act.put, List.setIfInBounds_toArray, List.set_cons_zero, List.set_cons_succ]
      refine' wpAnyH_take (i := 4) (v := _) (by simp only [List.getElem?_toArray, List.getElem?_cons_succ, List.getElem?_cons_zero]; rfl) (by kernel_rfl) (by kernel_rfl) (by kernel_rfl) (by intro _ _ _ h; exact h) (Or.inl ⟨by rfl, ?hyv64⟩) hHeld ?restv64
      case hyv64 => (intro w hSw; (try dsimp only at hSw); go_simp; try (with_reducible rfl))
      simp only [Act.put, List.setIfInBounds_toArray, List.set_cons_zero, List.set_cons_succ]
      refine' wpAnyH_take (i := 5) (v := _) (by simp only [List.getElem?_toArray, List.getElem?_cons_succ, List.getElem?_cons_zero]; rfl) (by kernel_rfl) (by kernel_rfl) (by kernel_rfl) (by intro _ _ _ h; exact h) (Or.inl ⟨by rfl, ?hyv65⟩) hHeld ?restv65
      case hyv65 => (intro w hSw; (try dsimp only at hSw); go_simp; try (with_reducible rfl))
      simp only [Act.put, List.setIfInBounds_toArray, List.set_cons_zero, List.set_cons_succ]
      refine' wpAnyH_take (i := 6) (v := _) (by simp only [List.getElem?_toArray, List.getElem?_cons_succ, List.getElem?_cons_zero]; rfl) (by kernel_rfl) (by kernel_rfl) (by kernel_rfl) (by intro _ _ _ h; exact h) (Or.inl ⟨by rfl, ?hyv66⟩) hHeld ?restv66
      case hyv66 => (intro w hSw; (try dsimp only at hSw); go_simp; try (with_reducible rfl))
      simp only [Act.put, List.setIfInBounds_toArray, List.set_cons_zero, List.set_cons_succ]
      refine' wpAnyH_take (i := 7) (v := _) (by simp only [List.getElem?_toArray, List.getElem?_cons_succ, List.getElem?_cons_zero]; rfl) (by kernel_rfl) (by kernel_rfl) (by kernel_rfl) (by intro _ _ _ h; exact h) (Or.inl ⟨by rfl, ?hyv67⟩) hHeld ?restv67
      case hyv67 => (intro w hSw; (try dsimp only at hSw); go_simp; try (with_reducible rfl))
      simp only [Act.put, List.setIfInBounds_toArray, List.set_cons_zero, List.set_cons_succ]
      refine' wpAnyH_take (i := 8) (v := _) (by simp only [List.getElem?_toArray, List.getElem?_cons_succ, List.getElem?_cons_zero]; rfl) (by kernel_rfl) (by kernel_rfl) (by kernel_rfl) (by intro _ _ _ h; exact h) (Or.inl ⟨by rfl, ?hyv68⟩) hHeld ?restv68
      case hyv68 => (intro w hSw; (try dsimp only at hSw); go_simp; try (with_reducible rfl))
      simp only [Act.put, List.setIfInBounds_toArray, List.set_cons_zero, List.set_cons_succ]
      refine wpAnyH_ready (rs := [1]) (by kernel_rfl) (by simp) (AllReadyH.cons (by simp only [List.getElem?_toArray, List.getElem?_cons_succ, List.getElem?_cons_zero]; rfl) (fun KK hKK => ?_) AllReadyH.nil)
      go_simp
      refine (str_mine ⟨x.toArray⟩ (by have := HX.out.2; simp [ByteArray.size]; omega) _ (hW.out.wb.nope (Turn.refl _ _).drew) (by have := hW.out.len; have := HL.out.1; have := HLT.out; omega)).mono ?_
      rintro e w4 ⟨rfl, hwr, hb, hk⟩
      have HW4 := Lib.hid (And.intro hwr (And.intro hb hk))
      clear hwr hb hk
      have H4 : Hid (Sh w0 w4 s mb n C K ∧ Turn Nope w w4) := by
        have ht : Turn Nope w w4 := Turn.toNope ((hW.out.tn.trans (Turn.refl _ _).drew).nopeBelow.trans HW4.out.2.1)
        exact ⟨H0.out.nope ht, ht⟩
      try go_wp2_with fail
      refine hKK.out _ _ ?_ (fun hHeld => ?_)
      · exact ⟨H4.out.1.cell, FL.out _ H4.out.2⟩
      clear hKK KK
      try simp only [Act.put, List.setIfInBounds_toArray, List.set_cons_zero, List.set_cons_succ]
      refine wpAnyH_ready (rs := [9]) (by kernel_rfl) (by simp) (AllReadyH.cons (by simp only [List.getElem?_toArray, List.getElem?_cons_succ, List.getElem?_cons_zero]; rfl) (fun KK hKK => ?_) AllReadyH.nil)
      go_simp
      refine (num_mine cn (by have := HCN.out.2.2; omega) _ HW4.out.1 (by have h1 := hW.out.len; have := HL.out.1; have := HLT.out; have := HX.out.2; have h2 := num_le x.length (by omega); simp only [List.length_append, nb_arr, List.length_map] at h1 ⊢; rw [show ByteArray.size ⟨x.toArray⟩ = x.length by simp [ByteArray.size]]; omega)).mono ?_
      rintro e w5 ⟨rfl, hwr, hb, hk⟩
      have HW5 := Lib.hid (And.intro hwr (And.intro hb hk))
      clear hwr hb hk
      have H5 : Hid (Sh w0 w5 s mb n C K ∧ Turn Nope w w5) := by
        have ht : Turn Nope w w5 := Turn.toNope (H4.out.2.nopeBelow.trans HW5.out.2.1)
        exact ⟨H0.out.nope ht, ht⟩
      try go_wp2_with fail
      refine hKK.out _ _ ?_ (fun hHeld => ?_)
      · exact ⟨H5.out.1.cell, FL.out _ H5.out.2⟩
      clear hKK KK
      try simp only [Act.put, List.setIfInBounds_toArray, List.set_cons_zero, List.set_cons_succ]
      refine wpAnyH_done (by kernel_rfl) ?_ _
      clear hHeld
      have HP : Hid (SaveW w0 w w5 s mb n g (i + 1) (.slice (some ⟨gr, 0, none⟩) (L.length + 1) cap) C K L) := by
        have hbs : (num L.length ++ (L.take i).flatMap (goodBs C)) ++ (num (ByteArray.size ⟨x.toArray⟩) ++ nb ⟨x.toArray⟩) ++ num cn = num L.length ++ (L.take (i + 1)).flatMap (goodBs C) := by
          rw [List.take_add_one, HXI.out, List.flatMap_append, nb_arr]
          simp [goodBs, ByteArray.size, HCN.out.2.1]
        have h1 := HW5.out.1
        rw [hbs] at h1
        refine ⟨h1, H5.out.2, ?_, ?_⟩
        · have h2 := own_kept2 (own_nope hW.out.row (Turn.refl Nope wr).drew) HW4.out.2.2 (by decide) (by decide)
          exact own_kept2 h2 HW5.out.2.2 (by decide) (by decide)
        · rw [← hbs]
          have h3 := good_len (C := C) (x := x) HX.out.2 HX.out.1.2
          have h4 := hW.out.len
          unfold goodBs at h3
          rw [HCN.out.2.1] at h3
          simp only [List.length_append, nb_arr, List.length_map] at h3 h4 ⊢
          have h5 : ByteArray.size ⟨x.toArray⟩ = x.length := by simp [ByteArray.size]
          rw [h5]
          omega
      clear hu
      go_wp2_with fail
      have hw := HWR.out
      go_wp2_with fail
      go_roundg (L.length - (i + 1))
      case measure => have := hk.out; have := HLT.out; omega
      case rel => exact ⟨i + 1, by go_num, by have := hk.out; have := HLT.out; show _ = _; omega, HP.out⟩
    · have b1 : decide ((i : Int) < (L.length : Int)) = false := by simp; omega
      have b1n : decide (i < L.length) = false := by simp; omega
      have HTK : Hid (L.take i = L) := List.take_of_length_le (by omega)
      clear hlt
      go_wp2_with fail
      have h1 := hW.out.wb
      rw [HTK.out] at h1
      have h2 : WrB wr w.heap.size g (nb (bstr (saveBs C L))) := by rw [nb_bstr _ (save_lt C L)]; exact h1
      refine (text_mine _ _ h2).mono ?_
      rintro e w6 ⟨rfl, rfl⟩
      go_wp2_with fail
      go_ret
      exact ⟨by rw [HSV.out]; rfl, hW.out.tn⟩
end Go.Proofs.Yteggenihjhclkaa.Lg
set_option maxRecDepth 16000
set_option linter.unusedVariables false
set_option linter.unusedSimpArgs false
namespace Go.Proofs.Yteggenihjhclkaa.Lg
open Go.RowKit Go.ChangeShapes Go.WideShapes Go.Deep Go.Maps
def cutP (s : ByteArray) (n : Nat) : ByteArray := if n < s.size then s.extract 0 n else s
theorem cutP_size (s : ByteArray) (n : Nat) : (cutP s n).size ≤ n := by
  unfold cutP
  split
  · rw [ByteArray.size_extract]; omega
  · omega
set_option maxHeartbeats 4000000 in
theorem cut_any (s : ByteArray) (n : Nat) (hn : n ≤ 1000000) (w : World) : Calls Try.prog 33 #[.string s, .int .i64 n] w fun e w' => e = .returned (.string (cutP s n)) ∧ w' = w := by
  go_enter Try.func33, Try.ntmps33
  by_cases h : n < s.size
  · have b1 : decide ((n : Int) < (s.size : Int)) = true := by simp; omega
    have b1n : decide (n < s.size) = true := by simp; omega
    have h0 : (0 : Int) ≤ (n : Int) := by omega
    have h1 : (n : Int) ≤ (s.size : Int) := by omega
    have h2 : n ≤ s.size := by omega
    go_wp2_with fail
    go_ret
    exact ⟨by unfold cutP; rw [if_pos h]; rfl, rfl⟩
  · have b1 : decide ((n : Int) < (s.size : Int)) = false := by simp; omega
    have b1n : decide (n < s.size) = false := by simp; omega
    go_wp2_with fail
    go_ret
    exact ⟨by unfold cutP; rw [if_neg h]; rfl, rfl⟩
set_option maxHeartbeats 4000000 in
theorem few_any (k : Int) (S T : ByteArray) (n : Int) (w : World) :
    Calls Try.prog 17 #[.agg #[.int .i64 k, .string S, .string T, .int .i64 n]] w fun e w' => e = .returned (.agg #[.int .i64 k, .string (cutP S 14), .string (cutP T 14), .int .i64 n]) ∧ Turn Nope w w' := by
  go_enter Try.func17, Try.ntmps17
  go_wp2_with (first | (go_region_with (first | (go_at_call 33; refine (cut_any _ 14 (by omega) _).mono ?_; rintro e w1 ⟨rfl, rfl⟩))))
  all_goals
    go_wp2_with fail
    exact bodyPost_ret (v := .agg #[.int .i64 k, .string (cutP S 14), .string (cutP T 14), .int .i64 n]) (by simp [results, Try.results17, go_sem]) rfl ⟨rfl, by repeat (first | exact Turn.refl _ _ | apply Turn.drewN | apply Turn.drew | apply Turn.alloc)⟩
def inv (o : Op4) : Op4 := if o.k = 1 then ⟨2, o.nm, [], 0⟩ else if o.k = 2 then ⟨1, o.nm, [], 0⟩ else ⟨3, o.dt, o.nm, o.N⟩
def aB (o : Op4) : Value := .agg #[.int .i64 o.k, .string ⟨o.nm.toArray⟩, .string ⟨o.dt.toArray⟩, .int .i64 o.N]
theorem arr_nm (x : ByteArray) : (⟨(nmOf x).toArray⟩ : ByteArray) = x := by unfold nmOf; simp
theorem inv_any (k : Int) (hk : k = 1 ∨ k = 2 ∨ k = 3) (S T : ByteArray) (n : Int) (w : World) :
    Calls Try.prog 31 #[.agg #[.int .i64 k, .string S, .string T, .int .i64 n]] w fun e w' => e = .returned (aB (inv ⟨k, nmOf S, nmOf T, n⟩)) ∧ Turn Nope w w' := by
  rcases hk with rfl | rfl | rfl
  · have e1 : aB (inv ⟨1, nmOf S, nmOf T, n⟩) = .agg #[.int .i64 2, .string S, .string ⟨#[]⟩, .int .i64 0] := by
      show Value.agg #[.int .i64 2, .string ⟨(nmOf S).toArray⟩, .string ⟨[].toArray⟩, .int .i64 0] = _
      rw [arr_nm]
    rw [e1]
    go_enter Try.func31, Try.ntmps31
    go_wp2
    exact bodyPost_ret (v := .agg #[.int .i64 2, .string S, .string ⟨#[]⟩, .int .i64 0]) (by simp [results, Try.results31, go_sem]) rfl ⟨rfl, ((Turn.refl _ _).alloc _).alloc _⟩
  · have e1 : aB (inv ⟨2, nmOf S, nmOf T, n⟩) = .agg #[.int .i64 1, .string S, .string ⟨#[]⟩, .int .i64 0] := by
      show Value.agg #[.int .i64 1, .string ⟨(nmOf S).toArray⟩, .string ⟨[].toArray⟩, .int .i64 0] = _
      rw [arr_nm]
    rw [e1]
    go_enter Try.func31, Try.ntmps31
    go_wp2
    exact bodyPost_ret (v := .agg #[.int .i64 1, .string S, .string ⟨#[]⟩, .int .i64 0]) (by simp [results, Try.results31, go_sem]) rfl ⟨rfl, ((Turn.refl _ _).alloc _).alloc _⟩
  · have e1 : aB (inv ⟨3, nmOf S, nmOf T, n⟩) = .agg #[.int .i64 3, .string T, .string S, .int .i64 n] := by
      show Value.agg #[.int .i64 3, .string ⟨(nmOf T).toArray⟩, .string ⟨(nmOf S).toArray⟩, .int .i64 n] = _
      rw [arr_nm, arr_nm]
    rw [e1]
    go_enter Try.func31, Try.ntmps31
    go_wp2
    exact bodyPost_ret (v := .agg #[.int .i64 3, .string T, .string S, .int .i64 n]) (by simp [results, Try.results31, go_sem]) rfl ⟨rfl, ((Turn.refl _ _).alloc _).alloc _⟩
def OpsIn (w : World) (a : Option Addr) (len : Nat) : Prop := len ≤ maxLen ∧ ∀ i, i < len → ∃ (ad : Addr) (k : Int) (S T : ByteArray) (n : Int), a = some ad ∧ (S.size ≤ maxLen ∧ T.size ≤ maxLen) ∧
  w.cell? (ad.add (i * 4)) = some (.int .i64 k) ∧ w.cell? ⟨(ad.add (i * 4)).block, (ad.add (i * 4)).off + 1, none⟩ = some (.string S) ∧
  w.cell? ⟨(ad.add (i * 4)).block, (ad.add (i * 4)).off + 2, none⟩ = some (.string T) ∧ w.cell? ⟨(ad.add (i * 4)).block, (ad.add (i * 4)).off + 3, none⟩ = some (.int .i64 n)
theorem OpsIn.later {w w' : World} {a : Option Addr} {len : Nat} (h : OpsIn w a len) (hb : Below w.heap.size w w') : OpsIn w' a len :=
  ⟨h.1, fun i hi => by
    obtain ⟨ad, k, S, T, n, e, hS, c0, c1, c2, c3⟩ := h.2 i hi
    exact ⟨ad, k, S, T, n, e, hS, cell_later hb c0, cell_later hb c1, cell_later hb c2, cell_later hb c3⟩⟩
variable {C : Nm → Int} {K : List Nm} {w0 w w' : World} {s mb n : Nat} {o : Op4}
theorem saved_same {K' : List Nm} (h : K.Perm K') : savedS C K = savedS C K' := by
  unfold savedS
  rw [accs_perm h]
theorem newK_perm {K' : List Nm} (h : K.Perm K') : (newK K o).Perm (newK K' o) := by
  unfold newK
  split
  · exact h.cons _
  · split
    · exact h.erase _
    · exact h
/-- BACK. -/
theorem inv_back (h : Book C K) (hd : doE C K o = 0) : ∀ K', K'.Perm (newK K o) → doE (newC C o) K' (inv o) = 0 ∧ newC (newC C o) (inv o) = C ∧ (newK K' (inv o)).Perm K := by
  intro K' hp
  obtain ⟨hc, h1, h2, h3⟩ := doE_ok hd
  obtain ⟨c1, c2, c3, c4, c5, c6⟩ := chk_ok hc
  have hlen := hp.length_eq
  by_cases hk3 : o.k = 3
  · obtain ⟨a1, a2, a3, a4⟩ := h3 hk3
    obtain ⟨b1, b2, b3⟩ := c5 hk3
    have hi : inv o = ⟨3, o.dt, o.nm, o.N⟩ := by unfold inv; rw [if_neg (by omega), if_neg (by omega)]
    have hK : newK K o = K := by unfold newK; rw [if_neg (by omega), if_neg (by omega)]
    rw [hK] at hp
    have hC : newC C o = fun y => if y = o.dt then C o.dt + o.N else if y = o.nm then C o.nm - o.N else C y := newC_move hk3
    have v1 : newC C o o.dt = C o.dt + o.N := by rw [hC]; show (if o.dt = o.dt then _ else _) = _; rw [if_pos rfl]
    have v2 : newC C o o.nm = C o.nm - o.N := by rw [hC]; show (if o.nm = o.dt then _ else if o.nm = o.nm then _ else _) = _; rw [if_neg b1, if_pos rfl]
    rw [hi]
    refine ⟨?_, ?_, ?_⟩
    · unfold doE
      have hch : chk ⟨3, o.dt, o.nm, o.N⟩ = 0 := by
        unfold chk
        rw [if_neg (show ¬ ((3 : Int) < 1 ∨ 3 < (3 : Int)) by decide), if_neg (show ¬ (12 < o.dt.length ∨ 12 < o.nm.length) by omega), if_neg (show ¬ ((3 : Int) = 3 ∧ (o.dt = o.nm ∨ o.N < 1 ∨ 1099511627776 < o.N)) from fun e => by rcases e.2 with e | e | e; exact b1 e.symm; omega; omega), if_neg (show ¬ ((3 : Int) ≠ 3 ∧ _) from fun e => e.1 rfl)]
      rw [if_neg (by rw [hch]; decide), if_neg (show ¬ (3 : Int) = 1 by decide), if_neg (show ¬ (o.dt ∉ K') from fun e => e (hp.mem_iff.2 a2)), if_neg (show ¬ (3 : Int) = 2 by decide), if_neg (show ¬ (o.nm ∉ K') from fun e => e (hp.mem_iff.2 a1)), if_neg (show ¬ (o.dt ≠ [] ∧ newC C o o.dt < o.N) from fun e => by have := h.lo _ e.1; have := e.2; omega), if_neg (show ¬ (o.nm ≠ [] ∧ 1099511627776 < newC C o o.nm + o.N) from fun e => by have := h.hi _ e.1; have := e.2; omega)]
    · rw [newC_move (o := ⟨3, o.dt, o.nm, o.N⟩) rfl]
      funext y
      show (if y = o.nm then newC C o o.nm + o.N else if y = o.dt then newC C o o.dt - o.N else newC C o y) = C y
      by_cases hy : y = o.nm
      · rw [if_pos hy, v2, hy]; omega
      · rw [if_neg hy]
        by_cases hy2 : y = o.dt
        · rw [if_pos hy2, v1, hy2]; omega
        · rw [if_neg hy2, hC]
          show (if y = o.dt then _ else if y = o.nm then _ else _) = _
          rw [if_neg hy2, if_neg hy]
    · unfold newK
      rw [if_neg (show ¬ (3 : Int) = 1 by decide), if_neg (show ¬ (3 : Int) = 2 by decide)]
      exact hp
  · obtain ⟨b1, b2, b3⟩ := c6 hk3
    have hC : newC C o = C := newC_stay hk3
    rw [hC]
    by_cases hk1 : o.k = 1
    · obtain ⟨a1, a2⟩ := h1 hk1
      have hi : inv o = ⟨2, o.nm, [], 0⟩ := by unfold inv; rw [if_pos hk1]
      have hK : newK K o = o.nm :: K := by unfold newK; rw [if_pos hk1]
      rw [hK] at hp
      rw [hi]
      refine ⟨?_, newC_stay (show ¬ (2 : Int) = 3 by decide), ?_⟩
      · unfold doE
        have hch : chk ⟨2, o.nm, [], 0⟩ = 0 := by
          unfold chk
          rw [if_neg (show ¬ ((2 : Int) < 1 ∨ 3 < (2 : Int)) by decide), if_neg (show ¬ (12 < o.nm.length ∨ 12 < ([] : Nm).length) from fun e => by rcases e with e | e; omega; simp at e), if_neg (show ¬ ((2 : Int) = 3 ∧ _) from fun e => by have := e.1; omega), if_neg (show ¬ ((2 : Int) ≠ 3 ∧ (o.nm = [] ∨ ([] : Nm) ≠ [] ∨ (0 : Int) ≠ 0)) from fun e => by rcases e.2 with e | e | e; exact b1 e; exact e rfl; exact e rfl)]
        rw [if_neg (by rw [hch]; decide), if_neg (show ¬ (2 : Int) = 1 by decide), if_neg (show ¬ (o.nm ∉ K') from fun e => e (hp.mem_iff.2 List.mem_cons_self)), if_pos rfl, if_neg (show ¬ (C o.nm ≠ 0) from fun e => e (h.out _ a1))]
      · unfold newK
        rw [if_neg (show ¬ (2 : Int) = 1 by decide), if_pos rfl]
        have := hp.erase o.nm
        rwa [List.erase_cons_head] at this
    · have hk2 : o.k = 2 := by omega
      obtain ⟨a1, a2⟩ := h2 hk2
      have hi : inv o = ⟨1, o.nm, [], 0⟩ := by unfold inv; rw [if_neg hk1, if_pos hk2]
      have hK : newK K o = K.erase o.nm := by unfold newK; rw [if_neg hk1, if_pos hk2]
      rw [hK] at hp hlen
      rw [hi]
      have hpos := List.length_pos_of_mem a1
      refine ⟨?_, newC_stay (show ¬ (1 : Int) = 3 by decide), ?_⟩
      · unfold doE
        have hch : chk ⟨1, o.nm, [], 0⟩ = 0 := by
          unfold chk
          rw [if_neg (show ¬ ((1 : Int) < 1 ∨ 3 < (1 : Int)) by decide), if_neg (show ¬ (12 < o.nm.length ∨ 12 < ([] : Nm).length) from fun e => by rcases e with e | e; omega; simp at e), if_neg (show ¬ ((1 : Int) = 3 ∧ _) from fun e => by have := e.1; omega), if_neg (show ¬ ((1 : Int) ≠ 3 ∧ (o.nm = [] ∨ ([] : Nm) ≠ [] ∨ (0 : Int) ≠ 0)) from fun e => by rcases e.2 with e | e | e; exact b1 e; exact e rfl; exact e rfl)]
        rw [if_neg (by rw [hch]; decide), if_pos rfl, if_neg (show ¬ (o.nm ∈ K') from fun e => h.nd.not_mem_erase (hp.mem_iff.1 e)), if_neg (by rw [hlen, List.length_erase_of_mem a1]; have := h.le; omega)]
      · unfold newK
        rw [if_pos rfl]
        exact (hp.cons o.nm).trans (List.perm_cons_erase a1).symm
end Go.Proofs.Yteggenihjhclkaa.Lg
set_option maxRecDepth 16000
set_option linter.unusedVariables false
set_option linter.unusedSimpArgs false
namespace Go.Proofs.Yteggenihjhclkaa.Lg
open Go.RowKit Go.Maps PWire Go.Proofs.YteggenihjhclkaaW.PrintWords
variable {C : Nm → Int} {K L : List Nm} {w0 w w' : World} {s mb n : Nat} {D : Dm} {o : Op4}
theorem rd_turn {g : Nat} (h1 : Below w0.heap.size w0 w) (h2 : Below w0.heap.size w0 w') (k : KeepBut w w' g none) : Turn (At g) w w' :=
  ⟨h2.os.trans h1.os.symm, h2.tape.trans h1.tape.symm, h2.output.trans h1.output.symm, k.1, fun i hi hn => k.2 i hi hn (by simp)⟩
/-- A book's accounts, those among the first i names, and the house. -/
def ldC (C : Nm → Int) (L : List Nm) (i : Nat) : Nm → Int := fun x => if x = [] then -(sumK C (L.take i)) else if x ∈ L.take i then C x else 0
def ldK (L : List Nm) (i : Nat) : List Nm := (L.take i).reverse ++ [[]]
/-- The facts of a book's names. -/
structure Nms (C : Nm → Int) (L : List Nm) : Prop where
  le : L.length ≤ 16
  nd : L.Nodup
  nm : ∀ x ∈ L, x.length ≤ 12 ∧ x ≠ []
  lt : L.Pairwise (fun x y => ¬ y ≤ x)
  lo : ∀ x ∈ L, 0 ≤ C x
  hi : ∀ x ∈ L, C x ≤ 1099511627776
theorem sum_range (h : Nms C L) : ∀ M : List Nm, (∀ x ∈ M, x ∈ L) → 0 ≤ sumK C M ∧ sumK C M ≤ (M.length : Int) * 1099511627776
  | [], _ => ⟨Int.le_refl _, Int.le_refl _⟩
  | x :: M, hM => by
    have h1 := sum_range h M fun y hy => hM y (List.mem_cons_of_mem _ hy)
    have h2 := h.lo x (hM x List.mem_cons_self)
    have h3 := h.hi x (hM x List.mem_cons_self)
    rw [sum_cons, List.length_cons]
    omega
theorem sum_app (C : Nm → Int) : ∀ A B : List Nm, sumK C (A ++ B) = sumK C A + sumK C B
  | [], B => by simp [sumK]
  | x :: A, B => by rw [List.cons_append, sum_cons, sum_cons, sum_app C A B]; omega
theorem take_sum (h : Nms C L) (i : Nat) (hi : i ≤ L.length) : 0 ≤ sumK C (L.take i) ∧ sumK C (L.take i) ≤ (i : Int) * 1099511627776 := by
  have := sum_range h (L.take i) fun x hx => List.mem_of_mem_take hx
  rw [List.length_take, Nat.min_eq_left hi] at this
  exact this
theorem ld_house (C : Nm → Int) (L : List Nm) (i : Nat) : ldC C L i [] = -(sumK C (L.take i)) := by unfold ldC; rw [if_pos rfl]
theorem ldK_mem (L : List Nm) (i : Nat) (x : Nm) : x ∈ ldK L i ↔ x ∈ L.take i ∨ x = [] := by unfold ldK; simp
theorem ld_book (h : Nms C L) (i : Nat) : Book (ldC C L i) (ldK L i) := by
  have hin : ∀ x, x ∈ L.take i → x ∈ L := fun x hx => List.mem_of_mem_take hx
  have hne : ([] : Nm) ∉ L.take i := fun e => (h.nm _ (hin _ e)).2 rfl
  refine ⟨?_, fun x hx => ?_, (ldK_mem _ _ _).2 (.inr rfl), fun x hx => ?_, fun x hx => ?_, fun x hx => ?_, ?_⟩
  · unfold ldK
    rw [List.nodup_append]
    refine ⟨List.pairwise_reverse.2 ((h.nd.sublist (List.take_sublist _ _)).imp fun {a b} h e => h e.symm), by simp, fun a ha b hb e => ?_⟩
    rw [List.mem_singleton] at hb
    rw [List.mem_reverse, e, hb] at ha
    exact hne ha
  · rw [ldK_mem] at hx
    unfold ldC
    rw [if_neg (fun e => hx (.inr e)), if_neg (fun e => hx (.inl e))]
  · unfold ldC
    rw [if_neg hx]
    split
    · rename_i hx; exact h.lo x (hin x hx)
    · exact Int.le_refl _
  · unfold ldC
    rw [if_neg hx]
    split
    · rename_i hx; exact h.hi x (hin x hx)
    · decide
  · rcases (ldK_mem _ _ _).1 hx with hx | rfl
    · exact (h.nm x (hin x hx)).1
    · exact Nat.zero_le _
  · unfold ldK
    rw [List.length_append, List.length_reverse, List.length_take]
    have := h.le
    simp only [List.length_cons, List.length_nil]
    omega
theorem ld_step (h : Nms C L) {i : Nat} {x : Nm} (hx : L[i]? = some x) :
    (fun y => if y = [] then (if ([] : Nm) = x then C x else ldC C L i []) - C x else if y = x then C x else ldC C L i y) = ldC C L (i + 1) ∧ ldK L (i + 1) = x :: ldK L i ∧ x ∉ ldK L i ∧ x ≠ [] := by
  have htk : L.take (i + 1) = L.take i ++ [x] := by rw [List.take_add_one, hx]; rfl
  have hxL := List.mem_of_getElem? hx
  have hne := (h.nm x hxL).2
  have hxn : x ∉ L.take i := by
    intro hx2
    obtain ⟨k, hk2⟩ := List.getElem?_of_mem hx2
    have hki : k < i := by
      have := (List.getElem?_eq_some_iff.1 hk2).1
      rw [List.length_take] at this; omega
    rw [List.getElem?_take_of_lt hki] at hk2
    obtain ⟨h1, e1⟩ := List.getElem?_eq_some_iff.1 hk2
    obtain ⟨h2, e2⟩ := List.getElem?_eq_some_iff.1 hx
    exact (List.pairwise_iff_getElem.1 h.nd k i h1 h2 hki) (by rw [e1, e2])
  refine ⟨?_, ?_, fun e => ?_, hne⟩
  · funext y
    show (if y = [] then (if ([] : Nm) = x then C x else ldC C L i []) - C x else if y = x then C x else ldC C L i y) = _
    by_cases hy : y = []
    · rw [if_pos hy, if_neg (fun e => hne e.symm), hy, ld_house, ld_house, htk, sum_app, sum_cons]
      simp only [sumK, List.map_nil, List.sum_nil]
      omega
    · rw [if_neg hy]
      unfold ldC
      rw [htk, if_neg hy, if_neg hy]
      by_cases hyx : y = x
      · rw [if_pos hyx, if_pos (by simp [hyx]), hyx]
      · rw [if_neg hyx]
        by_cases hy2 : y ∈ L.take i
        · rw [if_pos hy2, if_pos (by simp [hy2])]
        · rw [if_neg hy2, if_neg (by simp [hy2, hyx])]
  · unfold ldK; rw [htk, List.reverse_append]; rfl
  · rcases (ldK_mem _ _ _).1 e with e | e
    · exact hxn e
    · exact hne e
theorem ld_all (hB : Book C K) (hs : sumK C K = 0) {i : Nat} (hi : (accs K).length ≤ i) : ldC C (accs K) i = C := by
  have hp : K.Perm ([] :: accs K) := by rw [← srt_house hB.house]; exact (List.mergeSort_perm K _).symm
  have h1 := sum_perm C hp
  rw [hs, sum_cons] at h1
  funext x
  unfold ldC
  rw [List.take_of_length_le hi]
  split
  · rename_i e; rw [e]; omega
  · rename_i e
    split
    · rfl
    · rename_i hx
      by_cases h0 : C x = 0
      · exact h0.symm
      · exact absurd ((accs_mem hB.nd hB.house x).2 ⟨Classical.byContradiction fun e2 => h0 (hB.out x e2), e⟩) hx
theorem ld_perm (hB : Book C K) {i : Nat} (hi : (accs K).length ≤ i) : (ldK (accs K) i).Perm K := by
  have hp : K.Perm ([] :: accs K) := by rw [← srt_house hB.house]; exact (List.mergeSort_perm K _).symm
  unfold ldK
  rw [List.take_of_length_le hi]
  refine List.Perm.trans ?_ hp.symm
  exact ((accs K).reverse_perm.append (List.Perm.refl _)).trans (List.perm_append_comm)
theorem good_len2 {C : Nm → Int} {x : Nm} (hx : x.length ≤ 12) (hc : C x ≤ 1099511627776) : (goodBs C x).length ≤ 32 := by
  unfold goodBs
  have h1 := num_le x.length (by omega)
  have h2 := num_le (C x).toNat (by omega)
  simp only [List.length_append, List.length_map]
  omega
theorem goods_len (h : Nms C L) : ∀ M : List Nm, (∀ x ∈ M, x ∈ L) → (M.flatMap (goodBs C)).length ≤ 32 * M.length
  | [], _ => by simp
  | x :: M, hM => by
    have h1 := good_len2 (C := C) (h.nm x (hM x List.mem_cons_self)).1 (h.hi x (hM x List.mem_cons_self))
    have h2 := goods_len h M fun y hy => hM y (List.mem_cons_of_mem _ hy)
    rw [List.flatMap_cons, List.length_append, List.length_cons]; omega
theorem srt_lt (h : K.Nodup) : (srt K).Pairwise (fun x y => ¬ y ≤ x) := by
  have tr : ∀ a b c : Nm, leB a b = true → leB b c = true → leB a c = true := fun a b c h1 h2 => by simp only [leB, decide_eq_true_eq] at *; exact List.le_trans h1 h2
  have tot : ∀ a b : Nm, (leB a b || leB b a) = true := fun a b => by simp only [leB, Bool.or_eq_true, decide_eq_true_eq]; exact List.le_total a b
  have h1 : (srt K).Pairwise (fun a b => leB a b = true) := List.pairwise_mergeSort tr tot K
  have h2 : (srt K).Nodup := (List.mergeSort_perm K _).nodup_iff.2 h
  refine (h1.and h2).imp fun {a b} hab hba => ?_
  have h3 := hab.1
  simp only [leB, decide_eq_true_eq] at h3
  exact hab.2 (List.le_antisymm h3 hba)
theorem nms_of (h : Book C K) : Nms C (accs K) := by
  have h1 := srt_house h.house
  have h2 := srt_lt h.nd
  have h3 : (srt K).Nodup := (List.mergeSort_perm K _).nodup_iff.2 h.nd
  rw [h1] at h2 h3
  have hm := accs_mem h.nd h.house
  refine ⟨by have := accs_length h.house; have := h.le; omega, (List.nodup_cons.1 h3).2, fun x hx => ⟨h.nm x ((hm x).1 hx).1, ((hm x).1 hx).2⟩, (List.pairwise_cons.1 h2).2, fun x hx => h.lo x ((hm x).1 hx).2, fun x hx => h.hi x ((hm x).1 hx).2⟩
/-- In the middle of the accounts. -/
structure LoadW (w wr : World) (s mb g i : Nat) (L : List Nm) (C : Nm → Int) (r : ByteArray) : Prop where
  sh : Sh w wr s mb (1 + 2 * i) (ldC C L i) (ldK L i)
  rd : IsS134 w wr g r 0
  nbr : nb r = (L.drop i).flatMap (goodBs C)
  bl : Below w.heap.size w wr
  ne : g ≠ s ∧ g ≠ mb
theorem LoadW.read {wr w2 : World} {g i : Nat} {r r2 : ByteArray} (h : LoadW w wr s mb g i L C r) (hi : IsS134 w w2 g r2 0) (hb : Below w.heap.size w w2) (hk : KeepBut wr w2 g none) : Sh w w2 s mb (1 + 2 * i) (ldC C L i) (ldK L i) :=
  h.sh.turn (rd_turn h.bl hb hk) (fun e => h.ne.1 (show s = g from e).symm) (fun e => h.ne.2 (show mb = g from e).symm)
set_option maxHeartbeats 8000000 in
theorem load_any (w : World) (hG : Book C K) (hs0 : sumK C K = 0) : Calls Try.prog 66 #[.string (savedS C K)] w fun e w' => ∃ s mb n K', e = .returned (.tuple #[.pointer (some ⟨s, 0, none⟩), .int .i64 0]) ∧ Sh w w' s mb n C K' ∧ K'.Perm K ∧ n ≤ 40 ∧ w.heap.size ≤ s ∧ w.heap.size ≤ mb ∧ Turn Nope w w' := by
  have HFIN : Hid (∀ i, (accs K).length ≤ i → ldC C (accs K) i = C ∧ (ldK (accs K) i).Perm K) := fun i hi => ⟨ld_all hG hs0 hi, ld_perm hG hi⟩
  obtain ⟨L, hL⟩ : ∃ L, accs K = L := ⟨_, rfl⟩
  have HL : Hid (Nms C L) := by rw [← hL]; exact nms_of hG
  have hsv : savedS C K = bstr (saveBs C L) := by unfold savedS; rw [hL]
  rw [hL] at HFIN
  rw [hsv]
  have hnb : nb (bstr (saveBs C L)) = num L.length ++ L.flatMap (goodBs C) := nb_bstr _ (save_lt C L)
  obtain ⟨t0, ht0⟩ : ∃ t0, bstr (saveBs C L) = t0 := ⟨_, rfl⟩
  rw [ht0] at hnb ⊢
  have hgl := goods_len HL.out L fun x hx => hx
  have hz : t0.size ≤ 600 := by
    have h1 := num_le L.length (by have := HL.out.le; omega)
    have h2 := HL.out.le
    rw [← nb_length, hnb, List.length_append]
    omega
  obtain ⟨r0, hf, hr⟩ := uptoS L.length 16 (by have := HL.out.le; omega) (by decide) t0 _ hnb hz
  have HF := Lib.hid (And.intro hf hr)
  have HB0 := Lib.hid (Below.refl w.heap.size w)
  clear hG hs0 hL hsv hnb hz hf hr hgl ht0
  go_enter Try.func66, Try.ntmps66
  go_wp2_with fail
  refine (wire_Read.calls t0 t0 0 w _ HB0.out rfl).mono ?_
  rintro e w2 ⟨g, rfl, hi, hb, -⟩
  have HI2 := Lib.hid hi
  have HB2 := Lib.hid hb
  clear hi hb
  go_wp2_with fail
  refine (new_any w w2 (Turn.toNope HB2.out)).mono ?_
  rintro e w3 ⟨s, mb, rfl, hs, h1, h2, ht⟩
  have HS3 := Lib.hid hs
  have HNE : Hid (g ≠ s ∧ g ≠ mb) := by have := blk_lt HI2.out.1; exact ⟨by omega, by omega⟩
  have HLO : Hid (w.heap.size ≤ s ∧ w.heap.size ≤ mb) := ⟨hs.los, hs.lom⟩
  have HI3 : Hid (IsS134 w w3 g t0 0) := ⟨ht.blk HI2.out.1 fun h => h, HI2.out.2⟩
  have HB3 := Lib.hid (HB2.out.trans ((ht.nopeBelow).mono HB2.out.size))
  clear hs h1 h2 ht HI2 HB2
  go_wp2_with fail
  refine (wire_Reader_Upto.calls 2000 g t0 0 16 _ r0 0 w _ HI3.out HB3.out HF.out.1).mono ?_
  rintro e w4 ⟨rfl, hi, hb, hk⟩
  have HW0 : Hid (LoadW w w4 s mb g 0 L C r0) := by
    have h1 := HS3.out.turn (rd_turn HB3.out hb hk) (fun e => HNE.out.1 (show s = g from e).symm) (fun e => HNE.out.2 (show mb = g from e).symm)
    refine ⟨?_, hi, HF.out.2, hb, HNE.out⟩
    have e1 : ldC C L 0 = fun _ => 0 := by funext x; unfold ldC; split <;> simp [sumK]
    rw [e1]
    exact h1
  clear hi hb hk HS3 HI3 HB3 HF
  go_wp2_with fail
  go_loopg [6, 7] L.length (fun kk v6 v7 wr => ∃ (i : Nat) (r : ByteArray) (lst : Nm), v7 = .int .i64 (kk : Int) ∧ v6 = .string ⟨lst.toArray⟩ ∧ Hid (kk + i = L.length ∧ ∀ x, L[i]? = some x → ¬ x ≤ lst) ∧ Hid (LoadW w wr s mb g i L C r))
  case atStart => exact ⟨0, r0, [], rfl, rfl, ⟨rfl, fun x hx e => (HL.out.nm x (List.mem_of_getElem? hx)).2 (List.le_nil.1 e)⟩, HW0.out⟩
  case round =>
    obtain ⟨i, r, lst, rfl, rfl, hk, hW⟩ := hrel
    clear HW0
    by_cases hlt : i < L.length
    · obtain ⟨m, rfl⟩ : ∃ m, gk = m + 1 := ⟨gk - 1, by have := hk.out.1; omega⟩
      have hkk := hk.out.1
      have b1 : decide ((0 : Int) < ((m + 1 : Nat) : Int)) = true := by rw [decide_eq_true_eq]; omega
      have b1n : decide (0 < m + 1) = true := by simp
      obtain ⟨x, hx⟩ : ∃ x, L[i]? = some x := ⟨_, List.getElem?_eq_getElem hlt⟩
      have HX := Lib.hid hx
      have HXL := Lib.hid (HL.out.nm x (List.mem_of_getElem? hx))
      obtain ⟨cn, hcn⟩ : ∃ cn : Nat, C x = (cn : Int) := ⟨(C x).toNat, by have := HL.out.lo x (List.mem_of_getElem? hx); omega⟩
      have HCN : Hid (C x = (cn : Int) ∧ (C x).toNat = cn ∧ cn ≤ 1099511627776) := by
        have h1 := HL.out.hi x (List.mem_of_getElem? hx)
        exact ⟨hcn, by omega, by omega⟩
      have hdrop : L.drop i = x :: L.drop (i + 1) := by
        obtain ⟨h1, rfl⟩ := List.getElem?_eq_some_iff.1 hx
        exact List.drop_eq_getElem_cons h1
      have hnb : nb r = num x.length ++ (x.map UInt8.toNat ++ (num cn ++ (L.drop (i + 1)).flatMap (goodBs C))) := by
        rw [hW.out.nbr, hdrop, List.flatMap_cons]
        simp only [goodBs, HCN.out.2.1, List.append_assoc]
      have hrz : r.size ≤ 600 := by
        have h1 := goods_len HL.out (L.drop i) fun y hy => List.mem_of_mem_drop hy
        rw [← nb_length, hW.out.nbr]
        have h2 : (L.drop i).length ≤ 16 := by rw [List.length_drop]; have := HL.out.le; omega
        omega
      have hxs : ByteArray.size ⟨x.toArray⟩ = x.length := by simp [ByteArray.size]
      obtain ⟨r1, hf1, hr1⟩ := strS ⟨x.toArray⟩ 12 (by rw [hxs]; have := HXL.out.1; omega) (by decide) r ((num cn ++ (L.drop (i + 1)).flatMap (goodBs C))) (by rw [hxs, nb_arr]; exact hnb) hrz
      have hr1z : r1.size ≤ 600 := by
        have h1 := congrArg List.length hr1
        have h2 := congrArg List.length hnb
        rw [nb_length] at h1 h2
        simp only [List.length_append] at h1 h2
        omega
      obtain ⟨r2, hf2, hr2⟩ := uptoS cn 1099511627776 (by have := HCN.out.2.2; omega) (by decide) r1 _ hr1 hr1z
      have HF := Lib.hid (And.intro hf1 (And.intro hf2 hr2))
      have HLST := Lib.hid (hk.out.2 x hx)
      have HLT := Lib.hid hlt
      clear hx hcn hdrop hnb hrz hf1 hr1 hr1z hf2 hr2 hlt hkk hxs
      go_wp2_with fail
      refine (wire_Reader_Err.calls g r 0 0 r 0 w _ hW.out.rd hW.out.bl rfl).mono ?_
      rintro e w5 ⟨rfl, hi5, hb5, hk5⟩
      have HW5 : Hid (LoadW w w5 s mb g i L C r) := ⟨hW.out.read hi5 hb5 hk5, hi5, hW.out.nbr, hb5, hW.out.ne⟩
      clear hi5 hb5 hk5
      go_wp2_with fail
      refine (wire_Reader_Str.calls 2000 g r 0 12 _ r1 0 w _ HW5.out.rd HW5.out.bl HF.out.1).mono ?_
      rintro e w6 ⟨rfl, hi6, hb6, hk6⟩
      have HS6 := Lib.hid (And.intro (HW5.out.read hi6 hb6 hk6) (And.intro hi6 hb6))
      clear hi6 hb6 hk6
      go_wp2_with fail
      refine (wire_Reader_Upto.calls 2000 g r1 0 1099511627776 _ r2 0 w _ HS6.out.2.1 HS6.out.2.2 HF.out.2.1).mono ?_
      rintro e w7 ⟨rfl, hi7, hb7, hk7⟩
      have HS7 := Lib.hid (And.intro (HS6.out.1.turn (rd_turn HS6.out.2.2 hb7 hk7) (fun e => HW5.out.ne.1 (show s = g from e).symm) (fun e => HW5.out.ne.2 (show mb = g from e).symm)) (And.intro hi7 hb7))
      clear hi7 hb7 hk7 HS6
      go_wp2_with fail
      refine (wire_Reader_Err.calls g r2 0 0 r2 0 w _ HS7.out.2.1 HS7.out.2.2 rfl).mono ?_
      rintro e w8 ⟨rfl, hi8, hb8, hk8⟩
      have HS8 := Lib.hid (And.intro (HS7.out.1.turn (rd_turn HS7.out.2.2 hb8 hk8) (fun e => HW5.out.ne.1 (show s = g from e).symm) (fun e => HW5.out.ne.2 (show mb = g from e).symm)) (And.intro hi8 hb8))
      clear hi8 hb8 hk8 HS7
      have hc1 : Op.bytesLess x lst = false := by
        rw [Go.Proofs.bytesLess_eq, decide_eq_false_iff_not]
        exact fun h => HLST.out (List.le_of_lt h)
      have hc2 : (x == lst) = false := by
        rw [beq_eq_false_iff_ne]
        rintro rfl
        exact HLST.out (List.le_refl _)
      obtain ⟨D, hD⟩ := HS8.out.1.map
      have HD := Lib.hid hD
      obtain ⟨v0, st, w9, w10, hent, hst, hown, hg10, hg9⟩ := hD.entry (x := ⟨x.toArray⟩) (v := (cn : Int)) (by show x.toArray.size ≤ maxLen; have := HXL.out.1; simp; unfold maxLen; omega) (by have := HL.out.le; have := HLT.out; unfold maxLen; omega) (wf_small (by omega) (by have := HCN.out.2.2; omega))
      have hxn := (ld_step HL.out HX.out).2.2.1
      have hC1 := hD.put (K' := x :: ldK L i) (x := x) (v := (cn : Int)) (by rw [show nmOf ⟨x.toArray⟩ = x by unfold nmOf; simp] at hown; exact hown) (by rw [if_neg hxn])
      have hlk := hC1.look1 (x := ⟨#[]⟩) (by decide)
      obtain ⟨h0, hh0⟩ : ∃ h0, (if (⟨#[]⟩ : ByteArray).data.toList = x then (cn : Int) else ldC C L i (⟨#[]⟩ : ByteArray).data.toList) = h0 := ⟨_, rfl⟩
      have HH0 : Hid (h0 = -(sumK C (L.take i))) := by
        rw [← hh0]
        show (if ([] : Nm) = x then _ else _) = _
        rw [if_neg (fun e => (ld_step HL.out HX.out).2.2.2 e.symm), ld_house]
      have HRS := Lib.hid (take_sum HL.out i (Nat.le_of_lt HLT.out))
      rw [hh0] at hlk
      have hw0 : wrap64 (h0 - (cn : Int)) = h0 - (cn : Int) := IntWalk.wrap64_in _ ⟨by have := HH0.out; have := HRS.out; have := HCN.out; have := HL.out.le; have := HLT.out; omega, by have := HH0.out; have := HRS.out; omega⟩
      have hw1 : IntKind.i64.wrap (h0 - (cn : Int)) = h0 - (cn : Int) := IntWalk.i64_in _ ⟨by have := HH0.out; have := HRS.out; have := HCN.out; have := HL.out.le; have := HLT.out; omega, by have := HH0.out; have := HRS.out; omega⟩
      obtain ⟨w11, hupd, hown2, hg11⟩ := hC1.own.update law9 Try.underlying90 (by have := HL.out.le; have := HLT.out; unfold maxLen; omega) (Go.WideMaps.keyOf_string_mk Try.underlying9 (s := ⟨#[]⟩) (by decide)) (val := .int .i64 (h0 - (cn : Int))) (plainElem_int Try.underlying3 (wf_small (by have := HH0.out; have := HRS.out; have := HCN.out; have := HL.out.le; have := HLT.out; omega) (by have := HH0.out; have := HRS.out; omega)))
      have hC2 := hC1.put (K' := x :: ldK L i) hown2 (by rw [if_pos (List.mem_cons_of_mem _ ((ldK_mem _ _ _).2 (.inr rfl)))])
      have HO := Lib.hid (And.intro hC2 (And.intro hg10 hg11))
      have c0 := HS8.out.1.cell
      have hs1 : IntKind.i64.wrap (m : Int) = (m : Int) := IntWalk.i64_in _ ⟨by omega, by have := HL.out.le; have := hk.out.1; omega⟩
      have hs2 : wrap64 (m : Int) = (m : Int) := IntWalk.wrap64_in _ ⟨by omega, by have := HL.out.le; have := hk.out.1; omega⟩
      have HS1 := Lib.hid (And.intro hs1 hs2)
      have c1 := blk_cell (blk_grown HS8.out.1.hs hg10 (fun e => by injection e with e; exact HS8.out.1.ne e.symm)) 0
      simp only [List.getElem?_toArray, List.getElem?_cons_zero] at c1
      clear hD hown hg10 hg9 hs1 hs2 hC1 hC2 hown2 hg11 hxn hh0
      go_wp2_with fail
      clear hent hst c0 c1 hc1 hc2 b1 b1n hlk hupd hw0 hw1
      have HP : Hid (LoadW w w11 s mb g (i + 1) L C r2) := by
        have hs := HS8.out.1
        have hst := ld_step HL.out HX.out
        have hC2 := HO.out.1
        have hne : (some mb : Option Nat) ≠ some s := fun e => by injection e with e; exact hs.ne e.symm
        have hne2 : (some mb : Option Nat) ≠ some g := fun e => by injection e with e; exact HW5.out.ne.2 e.symm
        have e1 : (fun y => if y = (⟨#[]⟩ : ByteArray).data.toList then h0 - (cn : Int) else (fun y => if y = x then (cn : Int) else ldC C L i y) y) = ldC C L (i + 1) := by
          rw [← hst.1]
          funext y
          show (if y = ([] : Nm) then h0 - (cn : Int) else if y = x then (cn : Int) else ldC C L i y) = _
          rw [HH0.out, HCN.out.1]
          show _ = (if y = [] then (if ([] : Nm) = x then (cn : Int) else ldC C L i []) - (cn : Int) else if y = x then (cn : Int) else ldC C L i y)
          rw [if_neg (fun e => hst.2.2.2 (show ([] : Nm) = x from e).symm), ld_house]
        rw [e1, ← hst.2.1] at hC2
        refine ⟨⟨blk_grown (blk_grown hs.hs HO.out.2.1 hne) HO.out.2.2 hne, hs.los, hs.lom, ⟨_, hC2.mono (by omega)⟩, ld_book HL.out (i + 1), ?_⟩, ⟨blk_grown (blk_grown HS8.out.2.1.1 HO.out.2.1 hne2) HO.out.2.2 hne2, HS8.out.2.1.2⟩, HF.out.2.2, ?_, HW5.out.ne⟩
        · rw [ld_house]
          have := take_sum HL.out (i + 1) HLT.out
          omega
        · exact (((Turn.toNope HS8.out.2.2).grown HO.out.2.1 fun k hk => .inr (by injection hk with hk; rw [← hk]; exact hs.lom)).grown HO.out.2.2 fun k hk => .inr (by injection hk with hk; rw [← hk]; exact hs.lom)).nopeBelow
      have HNX : Hid (∀ y, L[i + 1]? = some y → ¬ y ≤ x) := fun y hy => by
        obtain ⟨h1, e1⟩ := List.getElem?_eq_some_iff.1 HX.out
        obtain ⟨h2, e2⟩ := List.getElem?_eq_some_iff.1 hy
        have := List.pairwise_iff_getElem.1 HL.out.lt i (i + 1) h1 h2 (Nat.lt_succ_self i)
        rw [e1, e2] at this
        exact this
      have hs1 := HS1.out.1
      have hs2 := HS1.out.2
      go_wp2_with fail
      go_roundg m
      case measure => omega
      case rel => exact ⟨i + 1, r2, x, by go_num, rfl, ⟨by have := hk.out.1; show _ = _; omega, HNX.out⟩, HP.out⟩
    · obtain rfl : gk = 0 := by have := hk.out.1; omega
      have hil : L.length ≤ i := by omega
      have hr0 : r = ⟨#[]⟩ := nb_nil (by rw [hW.out.nbr, List.drop_eq_nil_of_le hil]; rfl)
      have HE : Hid (wire_Reader_End.f r 0 = some (0, r, 0)) := by show _ = _; rw [hr0, wire_Reader_End.f, if_pos (by rw [ByteArray.toList_eq])]
      have HCC := Lib.hid (HFIN.out i hil)
      have HIL : Hid (1 + 2 * i ≤ 40) := by have := hk.out.1; have := HL.out.le; exact (by omega : 1 + 2 * i ≤ 40)
      clear hlt hil hr0
      go_wp2_with fail
      refine (wire_Reader_End.calls g r 0 0 r 0 w _ hW.out.rd hW.out.bl HE.out).mono ?_
      rintro e w5 ⟨rfl, hi5, hb5, hk5⟩
      have HS5 : Hid (Sh w w5 s mb (1 + 2 * i) C (ldK L i) ∧ Below w.heap.size w w5) := by
        have h1 := hW.out.read hi5 hb5 hk5
        rw [HCC.out.1] at h1
        exact ⟨h1, hb5⟩
      clear hi5 hb5 hk5
      go_wp2_with fail
      go_ret2
      exact ⟨s, mb, _, _, rfl, HS5.out.1, HCC.out.2, HIL.out, HLO.out.1, HLO.out.2, Turn.toNope HS5.out.2⟩
end Go.Proofs.Yteggenihjhclkaa.Lg
set_option maxRecDepth 16000
set_option linter.unusedVariables false
set_option linter.unusedSimpArgs false
namespace Go.Proofs.Yteggenihjhclkaa.Lg
open Go.RowKit Go.Maps
variable {C : Nm → Int} {K : List Nm} {w0 w w' : World} {s mb n : Nat} {D : Dm} {o p q : Op4}
theorem Try.info9 : (Try.prog.info? 9).map (fun i => (i.zero, i.size, i.bytes)) = some (some (.string ⟨#[]⟩), 1, 16) := by kernel_rfl
/-- The accounts among the first i of two. -/
def tch (x y : Nm) (i : Nat) : List Nm := ([x, y].take i).filter (fun z => !(z == []))
theorem tch_step {x y z : Nm} {i : Nat} (h : [x, y][i]? = some z) : tch x y (i + 1) = tch x y i ++ (if z = [] then [] else [z]) := by
  unfold tch
  rw [List.take_add_one, h, List.filter_append]
  by_cases hz : z = []
  · subst hz; rfl
  · rw [if_neg hz]
    have : (z == []) = false := by simpa using hz
    show _ ++ List.filter _ [z] = _
    rw [List.filter_cons, this]; rfl
theorem tch_mem (x y z : Nm) : z ∈ tch x y 2 ↔ (z = x ∨ z = y) ∧ z ≠ [] := by
  unfold tch
  simp
theorem tch_len (x y : Nm) (i : Nat) : (tch x y i).length ≤ 2 := by
  unfold tch
  refine Nat.le_trans (List.length_filter_le _ _) ?_
  rw [List.length_take]; simp; omega
structure TchW (w wr : World) (gb : Nat) (X Y : ByteArray) (i : Nat) (v : Value) : Prop where
  blk : wr.heap[gb]? = some (.cells #[.string X, .string Y] 9 (0, 0))
  row : wr.ownsRow w.heap.size 9 1 v (tch (nmOf X) (nmOf Y) i).length (encs (tch (nmOf X) (nmOf Y) i))
  tn : Turn Nope w wr
  far : ∀ k, v.ownBlock = some k → gb < k
theorem TchW.nope {wr wr' : World} {gb : Nat} {X Y : ByteArray} {i : Nat} {v : Value} (h : TchW w wr gb X Y i v) (ht : Turn Nope wr wr') : TchW w wr' gb X Y i v :=
  ⟨ht.blk h.blk fun h => h, own_nope h.row ht, h.tn.trans ht, h.far⟩
set_option maxHeartbeats 8000000 in
theorem touches_any (k N : Int) (X Y : ByteArray) (w : World) :
    Calls Try.prog 34 #[.agg #[.int .i64 k, .string X, .string Y, .int .i64 N]] w fun e w' => ∃ v, e = .returned v ∧ w'.ownsRow w.heap.size 9 1 v (tch (nmOf X) (nmOf Y) 2).length (encs (tch (nmOf X) (nmOf Y) 2)) ∧ Turn Nope w w' := by
  obtain ⟨i9, hi9, hz9, hs9, hb9⟩ := info_parts Try.info9
  have I9 := Lib.hid (And.intro hi9 (And.intro hz9 (And.intro hs9 hb9)))
  clear hi9 hz9 hs9 hb9
  go_enter Try.func34, Try.ntmps34
  go_upto_block 0 with fail
  have H0 : Hid (TchW w ((w.alloc (.cells #[.int .i64 k, .string X, .string Y, .int .i64 N] 26)).alloc (.cells #[.string X, .string Y] 9)) (w.heap.size + 1) X Y 0 (.slice none 0 0)) := by
    refine ⟨?_, ⟨?_, .inl ⟨rfl, ?_⟩⟩, ((Turn.refl _ _).alloc _).alloc _, ?_⟩
    · have := blk_new (w.alloc (.cells #[.int .i64 k, .string X, .string Y, .int .i64 N] 26)) (.cells #[.string X, .string Y] 9)
      simpa using this
    all_goals simp [tch, encs, Value.ownBlock]
  obtain ⟨gb, hgb⟩ : ∃ gb, w.heap.size + 1 = gb := ⟨_, rfl⟩
  have HGB : Hid (w.heap.size + 1 = gb) := hgb
  rw [hgb] at H0
  go_wp2_with fail
  simp only [hgb]
  clear hgb
  go_loopg [3, 12] 2 (fun kk v3 v12 wr => ∃ (i : Nat), v12 = .int .i64 (i : Int) ∧ Hid (kk + i = 2) ∧ Hid (TchW w wr gb X Y i v3))
  case atStart => exact ⟨0, rfl, rfl, H0.out⟩
  case round =>
    obtain ⟨i, rfl, hk, hW⟩ := hrel
    clear H0
    by_cases hlt : i < 2
    · have b1 : decide ((i : Int) < 2) = true := by simp; omega
      have b1n : decide (i < 2) = true := by simp; omega
      have i0 : (0 : Int) ≤ (i : Int) := by omega
      have i1 : (i : Int) < 2 := by omega
      have hw : wrap64 ((i : Int) + 1) = (i : Int) + 1 := IntWalk.wrap64_in _ ⟨by omega, by omega⟩
      have HWR := Lib.hid hw
      obtain ⟨Z, hZ, hZn⟩ : ∃ Z : ByteArray, (#[Value.string X, .string Y] : Array Value)[i]? = some (.string Z) ∧ [nmOf X, nmOf Y][i]? = some (nmOf Z) := by
        rcases (by omega : i = 0 ∨ i = 1) with rfl | rfl
        · exact ⟨X, rfl, rfl⟩
        · exact ⟨Y, rfl, rfl⟩
      have c0 := blk_cell hW.out.blk i
      rw [hZ] at c0
      have HST := Lib.hid (tch_step hZn)
      have HLN := Lib.hid (tch_len (nmOf X) (nmOf Y) i)
      obtain ⟨L, hL⟩ : ∃ L, tch (nmOf X) (nmOf Y) i = L := ⟨_, rfl⟩
      have HL := Lib.hid hL
      rw [hL] at HST HLN
      have HI := Lib.hid hlt
      clear hZ hZn hlt hw hL
      by_cases hz : Z.size = 0
      · have e0 : Z = ⟨#[]⟩ := nm_empty (nm_nil.2 hz)
        subst e0
        have z0 : ((⟨#[]⟩ : ByteArray).toList != (⟨#[]⟩ : ByteArray).toList) = false := by simp
        clear hz
        go_wp2_with fail
        have hw := HWR.out
        go_wp2_with fail
        go_roundg (2 - (i + 1))
        case measure => have := hk.out; have := HI.out; omega
        case rel =>
          refine ⟨i + 1, by go_num, by have := hk.out; have := HI.out; show _ = _; omega, ?_⟩
          have e : tch (nmOf X) (nmOf Y) (i + 1) = tch (nmOf X) (nmOf Y) i := by rw [HL.out, HST.out]; simp [nmOf]
          have h := hW.out
          exact ⟨h.blk, by rw [e]; exact h.row, h.tn, h.far⟩
      · have z0 : (nmOf Z != []) = true := by rw [bne_iff_ne]; exact fun e => hz (nm_nil.1 e)
        have z1 : (Z.toList != []) = true := by rw [tl]; exact z0
        have HZ : Hid (nmOf Z ≠ []) := fun e => hz (nm_nil.1 e)
        obtain ⟨ab, cb, eb, _⟩ := own_slice hW.out.row
        subst eb
        rw [HL.out]
        have HR : Hid (wr.ownsRow w.heap.size 9 1 (.slice ab L.length cb) L.length (encs L)) := by have := hW.out.row; rw [HL.out] at this; exact this
        have HFAR : Hid (∀ k, (Value.slice ab L.length cb).ownBlock = some k → gb < k) := by have h := hW.out.far; rw [HL.out] at h; exact h
        have z2 : Z.toList.isEmpty = false := by rw [← Bool.not_eq_true, List.isEmpty_iff]; rw [tl]; exact HZ.out
        have HTW := Lib.hid hW.out.tn
        have HBK := Lib.hid hW.out.blk
        have HGB2 := Lib.hid (blk_lt hW.out.blk)
        have hl2 := HLN.out
        have hsz := HTW.out.size
        clear hz hW
        go_wp2_with (first | (at_builtin; refine wpList_append_lies _ rfl (.tmp 18) (.tmp 20) 61 rfl w.heap.size 9 i9 _ 1 16 Try.underlying61 I9.out.1 I9.out.2.1 I9.out.2.2.1 I9.out.2.2.2 rfl (by omega) (.slice ab L.length cb) L.length (encs L) rfl (HR.out.alloc _) ⟨wr.heap.size, 0, none⟩ 1 1 [.string Z] rfl rfl (news_new wr _ 9) (by intro u hu; simp at hu; subst hu; rfl) (by omega) (by unfold maxLen; omega) (by omega) (by simp; omega) (wr.heap.size + 1) (by simp) ?_; intro g2 cap2 w9 hown2 hgr2 hat2 hlt2; have HO2 := Lib.hid hown2; have HG2 := Lib.hid (And.intro hgr2 hat2); clear hown2 hgr2 hat2 hlt2 hl2 hsz))
        have hw := HWR.out
        go_wp2_with fail
        go_roundg (2 - (i + 1))
        case measure => have := hk.out; have := HI.out; omega
        case rel =>
          refine ⟨i + 1, by go_num, by have := hk.out; have := HI.out; show _ = _; omega, ?_⟩
          have e : tch (nmOf X) (nmOf Y) (i + 1) = L ++ [nmOf Z] := by rw [HST.out, if_neg HZ.out]
          have hne : (Value.slice ab L.length cb).ownBlock ≠ some gb := fun e => by have := HFAR.out gb e; omega
          refine ⟨?_, ?_, (HTW.out.alloc (.cells #[.string Z] 9)).growR HG2.out.1 (HR.out.alloc _) (Nat.le_refl _), fun k hk => ?_⟩
          · exact blk_grown (blk_alloc HBK.out _) HG2.out.1 hne
          · rw [e, List.length_append]
            have := HO2.out
            simpa [encs, encStr, nmOf] using this
          · rcases HG2.out.2 with h | h
            · have := HFAR.out g2 h
              simp [Value.ownBlock] at hk
              omega
            · have := HGB2.out
              simp [Value.ownBlock] at hk
              omega
    · have b1 : decide ((i : Int) < 2) = false := by simp; omega
      have b1n : decide (i < 2) = false := by simp; omega
      obtain rfl : i = 2 := by have := hk.out; omega
      clear hlt
      go_wp2_with fail
      go_ret
      exact ⟨_, rfl, hW.out.row, hW.out.tn⟩
/-- Two ops that touch no account in common. -/
def Far (p q : Op4) : Prop := ∀ x ∈ tch p.nm p.dt 2, ∀ y ∈ tch q.nm q.dt 2, x ≠ y
theorem Far.symm (h : Far p q) : Far q p := fun x hx y hy e => h y hy x hx e.symm
theorem Far.nm (h : Far p q) {x : Nm} (hx : x ≠ []) (hp : x = p.nm ∨ x = p.dt) : x ≠ q.nm ∧ x ≠ q.dt := by
  have h1 := (tch_mem p.nm p.dt x).2 ⟨hp, hx⟩
  refine ⟨fun e => ?_, fun e => ?_⟩
  · exact h x h1 x ((tch_mem q.nm q.dt x).2 ⟨.inl e, hx⟩) rfl
  · exact h x h1 x ((tch_mem q.nm q.dt x).2 ⟨.inr e, hx⟩) rfl
/-- What an op adds to an account. -/
def dl (o : Op4) (y : Nm) : Int := if o.k = 3 then (if y = o.dt then o.N else if y = o.nm then -o.N else 0) else 0
theorem newC_dl (C : Nm → Int) (hc : chk o = 0) (y : Nm) : newC C o y = C y + dl o y := by
  unfold newC dl
  by_cases hk : o.k = 3
  · rw [if_pos hk, if_pos hk]
    show (if y = o.dt then _ else if y = o.nm then _ else _) = _
    by_cases h1 : y = o.dt
    · rw [if_pos h1, if_pos h1, h1]
    · rw [if_neg h1, if_neg h1]
      by_cases h2 : y = o.nm
      · rw [if_pos h2, if_pos h2, h2]; omega
      · rw [if_neg h2, if_neg h2]; omega
  · rw [if_neg hk, if_neg hk]; omega
theorem newC_comm (hp : chk p = 0) (hq : chk q = 0) : newC (newC C p) q = newC (newC C q) p := by
  funext y
  rw [newC_dl _ hq, newC_dl _ hp, newC_dl _ hp, newC_dl _ hq]
  omega
theorem newC_far (hf : Far p q) {y : Nm} (hy : y ≠ []) (hq : y = q.nm ∨ y = q.dt) (hp : chk p = 0) : newC C p y = C y := by
  have h := hf.symm.nm hy hq
  rw [newC_dl _ hp]
  unfold dl
  rw [if_neg h.2, if_neg h.1]
  split <;> omega
theorem newK_mem (hf : Far p q) (hp : chk p = 0) {y : Nm} (hq : y = q.nm ∨ y = q.dt) : y ∈ newK K p ↔ y ∈ K ∨ (p.k = 1 ∧ y = p.nm) := by
  obtain ⟨c1, c2, c3, c4, c5, c6⟩ := chk_ok hp
  unfold newK
  by_cases h1 : p.k = 1
  · rw [if_pos h1, List.mem_cons]
    constructor
    · rintro (e | e); exact .inr ⟨h1, e⟩; exact .inl e
    · rintro (e | e); exact .inr e; exact .inl e.2
  · rw [if_neg h1]
    by_cases h2 : p.k = 2
    · rw [if_pos h2]
      have hne : y ≠ p.nm := by
        by_cases hy : y = []
        · intro e; exact (c6 (by omega)).1 (by rw [← e, hy])
        · exact (hf.symm.nm hy hq).1
      rw [List.mem_erase_of_ne hne]
      constructor
      · exact fun e => .inl e
      · rintro (e | e); exact e; exact absurd e.1 h1
    · rw [if_neg h2]
      constructor
      · exact fun e => .inl e
      · rintro (e | e); exact e; exact absurd e.1 h1
theorem apart_ok (hB : Book C K) (hp : doE C K p = 0) (hq : doE C K q = 0) (hf : Far p q) (hl : K.length ≤ 15) : doE (newC C p) (newK K p) q = 0 := by
  obtain ⟨pc, p1, p2, p3⟩ := doE_ok hp
  obtain ⟨qc, q1, q2, q3⟩ := doE_ok hq
  obtain ⟨c1, c2, c3, c4, c5, c6⟩ := chk_ok qc
  obtain ⟨d1, d2, d3, d4, d5, d6⟩ := chk_ok pc
  have hlen : (newK K p).length ≤ 16 := by
    unfold newK
    split
    · rw [List.length_cons]; omega
    · split
      · exact Nat.le_trans List.length_erase_le (by omega)
      · omega
  unfold doE
  rw [if_neg (by rw [qc]; decide)]
  by_cases hk1 : q.k = 1
  · have hn := (c6 (by omega)).1
    rw [if_pos hk1, if_neg, if_neg (by omega)]
    rw [newK_mem hf pc (.inl rfl)]
    rintro (e | e)
    · exact (q1 hk1).1 e
    · exact (hf.symm.nm hn (.inl rfl)).1 e.2
  · rw [if_neg hk1]
    by_cases hk2 : q.k = 2
    · have hn := (c6 (by omega)).1
      rw [if_neg (fun e => e ((newK_mem hf pc (.inl rfl)).2 (.inl (q2 hk2).1))), if_pos hk2, newC_far hf hn (.inl rfl) pc, if_neg (fun e => e (q2 hk2).2)]
    · have hk3 : q.k = 3 := by omega
      obtain ⟨a1, a2, a3, a4⟩ := q3 hk3
      rw [if_neg (fun e => e ((newK_mem hf pc (.inl rfl)).2 (.inl a1))), if_neg hk2, if_neg (fun e => e ((newK_mem hf pc (.inr rfl)).2 (.inl a2)))]
      rw [if_neg, if_neg]
      · rintro ⟨e1, e2⟩
        rw [newC_far hf e1 (.inr rfl) pc] at e2
        have := a4 e1; omega
      · rintro ⟨e1, e2⟩
        rw [newC_far hf e1 (.inl rfl) pc] at e2
        have := a3 e1; omega
theorem newK_comm (hp : chk p = 0) (hq : chk q = 0) (hf : Far p q) : (newK (newK K p) q).Perm (newK (newK K q) p) := by
  obtain ⟨c1, c2, c3, c4, c5, c6⟩ := chk_ok hq
  obtain ⟨d1, d2, d3, d4, d5, d6⟩ := chk_ok hp
  have hne : p.k ≠ 3 → q.k ≠ 3 → p.nm ≠ q.nm := fun h1 h2 => (hf.nm (d6 h1).1 (.inl rfl)).1
  rcases (by omega : p.k = 1 ∨ p.k = 2 ∨ p.k = 3) with h | h | h <;> rcases (by omega : q.k = 1 ∨ q.k = 2 ∨ q.k = 3) with g | g | g
  all_goals simp only [newK, h, g, if_true, show ¬ ((2 : Int) = 1) by decide, show ¬ ((3 : Int) = 1) by decide, show ¬ ((3 : Int) = 2) by decide, if_false]
  · exact List.Perm.swap _ _ _
  · rw [List.erase_cons_tail (by simpa using hne (by omega) (by omega))]
  · exact List.Perm.refl _
  · rw [List.erase_cons_tail (by simpa using (hne (by omega) (by omega)).symm)]
  · rw [List.erase_comm]
  all_goals exact List.Perm.refl _
theorem newK_perm2 {K' : List Nm} (h : K.Perm K') (o : Op4) : (newK K o).Perm (newK K' o) := newK_perm h
theorem doE_perm {K' : List Nm} (h : K.Perm K') (o : Op4) : doE C K o = doE C K' o := by
  unfold doE
  simp only [h.mem_iff, h.length_eq]
end Go.Proofs.Yteggenihjhclkaa.Lg
