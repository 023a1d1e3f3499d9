/- A shelf of goods: the plain laws, and the shelf in memory. -/
import Derived.Test.YtianagpneoopeaaLib
import Derived.Deep.RegionLaw
import Derived.Deep.RegionHeld3
import Derived.Maps.RangeWalk
import Derived.Maps.OwnSet
import Derived.Sort.KeysCollected
import Derived.StringKeys
set_option maxRecDepth 16000
set_option linter.unusedVariables false
set_option linter.unusedSimpArgs false
namespace Go.Proofs.Ytianagpneoopeaa
open Go.RowKit Go.Maps
abbrev Nm := List UInt8
/-- An op. -/
structure Op3 where
  k : Int
  nm : Nm
  N : Int
/-- May an op be? -/
def chk (o : Op3) : Int := if o.k ≠ 1 ∧ o.k ≠ 2 then 5 else if o.nm = [] ∨ 12 < o.nm.length ∨ o.N < 1 ∨ 1099511627776 < o.N then 4 else 0
/-- What an op answers, where each good is there so many times, and the goods are K. -/
def doE (C : Nm → Int) (K : List Nm) (o : Op3) : Int :=
  if chk o ≠ 0 then chk o else if o.k = 2 then (if C o.nm = 0 then 8 else if C o.nm < o.N then 11 else 0) else if C o.nm = 0 ∧ 16 ≤ K.length then 7 else if 1099511627776 < C o.nm + o.N then 10 else 0
def newC (C : Nm → Int) (o : Op3) : Nm → Int := fun y => if y = o.nm then (if o.k = 2 then C o.nm - o.N else C o.nm + o.N) else C y
def newK (C : Nm → Int) (K : List Nm) (o : Op3) : List Nm := if o.k = 2 then (if C o.nm = o.N then K.erase o.nm else K) else if C o.nm = 0 then o.nm :: K else K
def doC (C : Nm → Int) (K : List Nm) (o : Op3) : Nm → Int := if doE C K o = 0 then newC C o else C
def doK (C : Nm → Int) (K : List Nm) (o : Op3) : List Nm := if doE C K o = 0 then newK C K o else K
/-- The goods of a shelf. -/
structure Good (C : Nm → Int) (K : List Nm) : Prop where
  nd : K.Nodup
  mem : ∀ x, x ∈ K ↔ C x ≠ 0
  lo : ∀ x, 0 ≤ C x
  hi : ∀ x, C x ≤ 1099511627776
  nm : ∀ x ∈ K, x ≠ [] ∧ x.length ≤ 12
  le : K.length ≤ 16
variable {C : Nm → Int} {K : List Nm} {o : Op3}
theorem good_new : Good (fun _ => 0) [] := ⟨List.nodup_nil, fun x => by simp, fun x => Int.le_refl _, fun x => by simp, fun x hx => (by cases hx), by simp⟩
theorem doE_ok (h : doE C K o = 0) : (o.k = 1 ∨ o.k = 2) ∧ o.nm ≠ [] ∧ o.nm.length ≤ 12 ∧ 1 ≤ o.N ∧ o.N ≤ 1099511627776 ∧ (o.k = 2 → C o.nm ≠ 0 ∧ o.N ≤ C o.nm) ∧ (o.k = 1 → (C o.nm = 0 → K.length < 16) ∧ C o.nm + o.N ≤ 1099511627776) := by
  unfold doE at h
  have hc : chk o = 0 := by
    by_cases hc : chk o = 0
    · exact hc
    · rw [if_pos hc] at h; exact absurd h hc
  rw [if_neg (by simp [hc])] at h
  have hk : o.k = 1 ∨ o.k = 2 := by
    unfold chk at hc
    by_cases h1 : o.k ≠ 1 ∧ o.k ≠ 2
    · rw [if_pos h1] at hc; cases hc
    · omega
  have ha : ¬ (o.nm = [] ∨ 12 < o.nm.length ∨ o.N < 1 ∨ 1099511627776 < o.N) := by
    intro ha
    unfold chk at hc
    rw [if_neg (by omega), if_pos ha] at hc; cases hc
  refine ⟨hk, fun e => ha (.inl e), by omega, by omega, by omega, fun h2 => ?_, fun h1 => ?_⟩
  · rw [if_pos h2] at h
    by_cases h0 : C o.nm = 0
    · rw [if_pos h0] at h; cases h
    · rw [if_neg h0] at h
      by_cases h3 : C o.nm < o.N
      · rw [if_pos h3] at h; cases h
      · exact ⟨h0, by omega⟩
  · rw [if_neg (by omega)] at h
    by_cases h0 : C o.nm = 0 ∧ 16 ≤ K.length
    · rw [if_pos h0] at h; cases h
    · rw [if_neg h0] at h
      by_cases h3 : 1099511627776 < C o.nm + o.N
      · rw [if_pos h3] at h; cases h
      · exact ⟨fun e => by omega, by omega⟩
theorem newC_at : newC C o o.nm = if o.k = 2 then C o.nm - o.N else C o.nm + o.N := by unfold newC; rw [if_pos rfl]
theorem newC_far {y : Nm} (h : y ≠ o.nm) : newC C o y = C y := by unfold newC; rw [if_neg h]
theorem Good.put (h : Good C K) (hd : doE C K o = 0) : Good (newC C o) (newK C K o) := by
  obtain ⟨hk, h1, h2, h3, h4, ht, ha⟩ := doE_ok hd
  have hlo := h.lo o.nm
  have hhi := h.hi o.nm
  have hmemK : ∀ y, y ≠ o.nm → (y ∈ newK C K o ↔ y ∈ K) := fun y hy => by
    unfold newK
    split
    · split
      · rw [List.mem_erase_of_ne hy]
      · exact Iff.rfl
    · split
      · rw [List.mem_cons]; simp [hy]
      · exact Iff.rfl
  have hself : o.nm ∈ newK C K o ↔ newC C o o.nm ≠ 0 := by
    rw [newC_at]
    unfold newK
    by_cases hk2 : o.k = 2
    · have ht := ht hk2
      rw [if_pos hk2, if_pos hk2]
      by_cases he : C o.nm = o.N
      · rw [if_pos he]
        exact ⟨fun hx => absurd hx (h.nd.not_mem_erase), fun hx => absurd (by omega) hx⟩
      · rw [if_neg he]
        exact ⟨fun _ => by omega, fun _ => (h.mem _).2 ht.1⟩
    · have ha := ha (by omega)
      rw [if_neg hk2, if_neg hk2]
      by_cases he : C o.nm = 0
      · rw [if_pos he]
        exact ⟨fun _ => by omega, fun _ => List.mem_cons_self⟩
      · rw [if_neg he]
        exact ⟨fun _ => by omega, fun _ => (h.mem _).2 he⟩
  refine ⟨?_, fun y => ?_, fun y => ?_, fun y => ?_, fun y hy => ?_, ?_⟩
  · unfold newK
    split
    · split
      · exact h.nd.erase _
      · exact h.nd
    · split
      · rename_i he
        exact List.nodup_cons.2 ⟨fun hx => (h.mem _).1 hx he, h.nd⟩
      · exact h.nd
  · by_cases hy : y = o.nm
    · rw [hy]; exact hself
    · rw [hmemK y hy, newC_far hy]; exact h.mem y
  · by_cases hy : y = o.nm
    · rw [hy, newC_at]
      by_cases hk2 : o.k = 2
      · have := ht hk2; rw [if_pos hk2]; omega
      · rw [if_neg hk2]; omega
    · rw [newC_far hy]; exact h.lo y
  · by_cases hy : y = o.nm
    · rw [hy, newC_at]
      by_cases hk2 : o.k = 2
      · have := ht hk2; rw [if_pos hk2]; omega
      · have := ha (by omega); rw [if_neg hk2]; omega
    · rw [newC_far hy]; exact h.hi y
  · by_cases hyx : y = o.nm
    · rw [hyx]; exact ⟨h1, h2⟩
    · exact h.nm y ((hmemK y hyx).1 hy)
  · unfold newK
    split
    · split
      · exact Nat.le_trans List.length_erase_le h.le
      · exact h.le
    · split
      · rename_i hk2 he
        have := (ha (by omega)).1 he
        simp only [List.length_cons]; omega
      · exact h.le
theorem Good.did (h : Good C K) : Good (doC C K o) (doK C K o) := by
  unfold doC doK
  by_cases hd : doE C K o = 0
  · rw [if_pos hd, if_pos hd]; exact h.put hd
  · rw [if_neg hd, if_neg hd]; exact h
/-! ### in memory -/
theorem law9 : Keyed Try.prog 9 := string_keyed Try.underlying9
theorem zero3 (w : World) : (zeroValue 3).run Try.prog w = .ok (.int .i64 0) w := Try.zeroValue3 w
abbrev Dm := DataW Unit
/-- The map: what it reads as. -/
structure CntM (w : World) (mb n : Nat) (D : Dm) (C : Nm → Int) (K : List Nm) : Prop where
  own : w.ownsMap Try.prog 9 (plainElem (H := Unit) Try.prog 3) mb n D
  val : ∀ x, D.atKey (.string x) (.lit (.int .i64 0)) = .lit (.int .i64 (C x))
  has : ∀ x, Maps.has D (.string x) = true ↔ x ∈ K
  len : Maps.size D = K.length
structure Sh (w0 w : World) (s mb n : Nat) (C : Nm → Int) (K : List Nm) : Prop where
  hs : w.heap[s]? = some (.cells #[.map (some mb)] 45 (0, 0))
  los : w0.heap.size ≤ s
  lom : w0.heap.size ≤ mb
  map : ∃ D, CntM w mb n D C K
  good : Good C K
variable {w0 w w' : World} {s mb n : Nat} {D : Dm}
theorem CntM.turn {S : Nat → Prop} (h : CntM w mb n D C K) (ht : Turn S w w') (hS : ¬ S mb) : CntM w' mb n D C K := by
  refine ⟨?_, h.val, h.has, h.len⟩
  obtain ⟨es, clock, hb, F, hs, hD⟩ := h.own
  exact ⟨es, clock, ht.blk hb hS, F, hs, hD⟩
theorem CntM.blk (h : CntM w mb n D C K) : ∃ es clock, w.heap[mb]? = some (.map es clock) := by
  obtain ⟨es, clock, hb, _⟩ := h.own
  exact ⟨es, clock, hb⟩
theorem Sh.turn {S : Nat → Prop} (h : Sh w0 w s mb n C K) (ht : Turn S w w') (hs : ¬ S s) (hS : ¬ S mb) : Sh w0 w' s mb n C K := by
  obtain ⟨D, hD⟩ := h.map
  exact ⟨ht.blk h.hs hs, h.los, h.lom, ⟨D, hD.turn ht hS⟩, h.good⟩
theorem Sh.nope (h : Sh w0 w s mb n C K) (ht : Turn Nope w w') : Sh w0 w' s mb n C K := h.turn ht (fun h => h) fun h => h
theorem Sh.cell (h : Sh w0 w s mb n C K) : w.cell? ⟨s, 0, none⟩ = some (.map (some mb)) := by
  have c0 := blk_cell h.hs 0
  simpa using c0
theorem Sh.ne (h : Sh w0 w s mb n C K) : s ≠ mb := by
  rintro rfl
  obtain ⟨D, hD⟩ := h.map
  obtain ⟨es, clock, hb⟩ := hD.blk
  rw [h.hs] at hb; cases hb
theorem CntM.look (h : CntM w mb n D C K) {x : ByteArray} (hx : x.size ≤ maxLen) : (Instr.lookup 43 (.map (some mb)) (.string x) true).run Try.prog w = .ok (.tuple #[.int .i64 (C x.data.toList), .bool (Maps.has D (.string x.data.toList))]) w := by
  obtain ⟨v, ps, hrun, hv⟩ := h.own.look_ok law9 Try.underlying43 (zero3 w) (zd := .lit (.int .i64 0)) (zp := []) (plainElem_int Try.underlying3 (by decide)) (Go.WideMaps.keyOf_string_mk Try.underlying9 hx)
  rw [h.val] at hv
  obtain ⟨c, rfl, hc, _⟩ := plainElem_int_inv Try.underlying3 hv
  injection hc with hc _
  injection hc with hc
  injection hc with _ hc
  rw [hc]; exact hrun
theorem CntM.look1 (h : CntM w mb n D C K) {x : ByteArray} (hx : x.size ≤ maxLen) : (Instr.lookup 43 (.map (some mb)) (.string x) false).run Try.prog w = .ok (.int .i64 (C x.data.toList)) w := by
  obtain ⟨v, ps, hrun, hv⟩ := h.own.lookup law9 Try.underlying43 (zero3 w) (zd := .lit (.int .i64 0)) (zp := []) (plainElem_int Try.underlying3 (by decide)) (Go.WideMaps.keyOf_string_mk Try.underlying9 hx)
  rw [h.val] at hv
  obtain ⟨c, rfl, hc, _⟩ := plainElem_int_inv Try.underlying3 hv
  injection hc with hc _
  injection hc with hc
  injection hc with _ hc
  rw [hc]; exact hrun
theorem CntM.put {x : Nm} {v : Int} {w1 : World} {K' : List Nm} (h : CntM w mb n D C K) (hv : v ≠ 0) (h1 : w1.ownsMap Try.prog 9 (plainElem (H := Unit) Try.prog 3) mb (n + 1) (D.put (.string x) (.lit (.int .i64 v)))) (hK : K' = if x ∈ K then K else x :: K) : CntM w1 mb (n + 1) (D.put (.string x) (.lit (.int .i64 v))) (fun y => if y = x then v else C y) K' := by
  subst hK
  refine ⟨h1, fun y => ?_, fun y => ?_, ?_⟩
  · by_cases hyx : y = x
    · subst hyx
      simp only [if_true]
      exact atKey_put_same h.own.isMap (show WideAt.IsKeyLit (.string y) from trivial) _ _
    · simp only [if_neg hyx]
      rw [atKey_put_other (by simpa using hyx)]
      exact h.val y
  · have hm : y ∈ (if x ∈ K then K else x :: K) ↔ y = x ∨ y ∈ K := by
      split
      · rename_i hx
        exact ⟨.inr, fun h => by rcases h with rfl | h; exact hx; exact h⟩
      · exact List.mem_cons
    rw [hm]
    by_cases hyx : y = x
    · subst hyx
      rw [has_put_same h.own.isMap (show WideAt.IsKeyLit (.string y) from trivial)]
      simp
    · rw [has_put_other (by simpa using hyx), h.has y]
      simp [hyx]
  · rw [size_put (h.own.tidy law9)]
    by_cases hx : x ∈ K
    · rw [if_pos ((h.has x).2 hx), if_pos hx, h.len]
    · rw [if_neg (fun e => hx ((h.has x).1 e)), if_neg hx, h.len]; rfl
theorem CntM.del {x : Nm} {w1 : World} (h : CntM w mb n D C K) (hnd : K.Nodup) (h1 : w1.ownsMap Try.prog 9 (plainElem (H := Unit) Try.prog 3) mb n (D.del (.string x))) : CntM w1 mb n (D.del (.string x)) (fun y => if y = x then 0 else C y) (K.erase x) := by
  refine ⟨h1, fun y => ?_, fun y => ?_, ?_⟩
  · by_cases hyx : y = x
    · subst hyx
      simp only [if_true]
      exact atKey_del_same _
    · simp only [if_neg hyx]
      rw [atKey_del_other (by simpa using hyx)]
      exact h.val y
  · by_cases hyx : y = x
    · subst hyx
      rw [has_del_same]
      simp [hnd.not_mem_erase]
    · rw [has_del_other (by simpa using hyx), h.has y, List.mem_erase_of_ne hyx]
  · have h2 := size_del (k := .string x) (h.own.tidy law9)
    rw [h.len] at h2
    by_cases hx : x ∈ K
    · rw [if_pos ((h.has x).2 hx)] at h2
      rw [List.length_erase_of_mem hx]; omega
    · rw [if_neg (fun e => hx ((h.has x).1 e))] at h2
      rw [List.erase_of_not_mem hx]; omega
theorem CntM.keys (h : CntM w mb n D C K) (hnd : K.Nodup) : K.Perm (strKeys D) := by
  obtain ⟨es, hD, hpw, _⟩ := h.own.entries law9
  obtain ⟨es', hD', hko⟩ := h.own.keysOf
  obtain rfl : es = es' := by rw [hD] at hD'; simpa using hD'
  have hh := h.has
  rw [hD] at hh ⊢
  exact perm_strKeys hpw (fun p hp => by obtain ⟨v, hv⟩ := hko p hp; obtain ⟨x, _, hx, _⟩ := Maps.keyOf_str Try.underlying9 hv; exact ⟨x, hx⟩) hnd fun x => (hh x).symm
end Go.Proofs.Ytianagpneoopeaa
