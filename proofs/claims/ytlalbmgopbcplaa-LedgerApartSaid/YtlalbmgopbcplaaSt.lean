/- A book of accounts: the plain laws, and the book in memory. -/
import Derived.Test.YtlalbmgopbcplaaLib
import Derived.Deep.RegionLaw
import Derived.Deep.RegionHeld3
import Derived.Maps.RangeWalk
import Derived.Maps.OwnSet
import Derived.Sort.KeysCollected
import Derived.StringKeys
set_option maxRecDepth 16000
set_option linter.unusedVariables false
set_option linter.unusedSimpArgs false
namespace Go.Proofs.Ytlalbmgopbcplaa
open Go.RowKit Go.Maps
abbrev Nm := List UInt8
/-- An op. -/
structure Op4 where
  k : Int
  nm : Nm
  to : Nm
  N : Int
/-- May an op be? -/
def chk (o : Op4) : Int :=
  if o.k < 1 ∨ 3 < o.k then 5 else if 12 < o.nm.length ∨ 12 < o.to.length then 4
  else if o.k = 3 ∧ (o.nm = o.to ∨ o.N < 1 ∨ 1099511627776 < o.N) then 4 else if o.k ≠ 3 ∧ (o.nm = [] ∨ o.to ≠ [] ∨ o.N ≠ 0) then 4 else 0
/-- What an op answers, where the accounts are K, and each has so much. -/
def doE (C : Nm → Int) (K : List Nm) (o : Op4) : Int :=
  if chk o ≠ 0 then chk o
  else if o.k = 1 then (if o.nm ∈ K then 9 else if 16 < K.length then 7 else 0)
  else if o.nm ∉ K then 8
  else if o.k = 2 then (if C o.nm ≠ 0 then 11 else 0)
  else if o.to ∉ K then 8 else if o.nm ≠ [] ∧ C o.nm < o.N then 11 else if o.to ≠ [] ∧ 1099511627776 < C o.to + o.N then 10 else 0
def newC (C : Nm → Int) (o : Op4) : Nm → Int := if o.k = 3 then fun y => if y = o.to then C o.to + o.N else if y = o.nm then C o.nm - o.N else C y else C
def newK (K : List Nm) (o : Op4) : List Nm := if o.k = 1 then o.nm :: K else if o.k = 2 then K.erase o.nm else K
def doC (C : Nm → Int) (K : List Nm) (o : Op4) : Nm → Int := if doE C K o = 0 then newC C o else C
def doK (C : Nm → Int) (K : List Nm) (o : Op4) : List Nm := if doE C K o = 0 then newK K o else K
/-- The accounts of a book. -/
structure Book (C : Nm → Int) (K : List Nm) : Prop where
  nd : K.Nodup
  out : ∀ x, x ∉ K → C x = 0
  house : [] ∈ K
  lo : ∀ x, x ≠ [] → 0 ≤ C x
  hi : ∀ x, x ≠ [] → C x ≤ 1099511627776
  nm : ∀ x ∈ K, x.length ≤ 12
  le : K.length ≤ 17
variable {C : Nm → Int} {K : List Nm} {o : Op4}
theorem book_new : Book (fun _ => 0) [[]] := ⟨by simp, fun x _ => rfl, by simp, fun x _ => Int.le_refl _, fun x _ => by simp, fun x hx => by simp at hx; simp [hx], by simp⟩
theorem chk_ok (h : chk o = 0) : 1 ≤ o.k ∧ o.k ≤ 3 ∧ o.nm.length ≤ 12 ∧ o.to.length ≤ 12 ∧ (o.k = 3 → o.nm ≠ o.to ∧ 1 ≤ o.N ∧ o.N ≤ 1099511627776) ∧ (o.k ≠ 3 → o.nm ≠ [] ∧ o.to = [] ∧ o.N = 0) := by
  unfold chk at h
  by_cases h1 : o.k < 1 ∨ 3 < o.k
  · rw [if_pos h1] at h; cases h
  rw [if_neg h1] at h
  by_cases h2 : 12 < o.nm.length ∨ 12 < o.to.length
  · rw [if_pos h2] at h; cases h
  rw [if_neg h2] at h
  by_cases h3 : o.k = 3 ∧ (o.nm = o.to ∨ o.N < 1 ∨ 1099511627776 < o.N)
  · rw [if_pos h3] at h; cases h
  rw [if_neg h3] at h
  by_cases h4 : o.k ≠ 3 ∧ (o.nm = [] ∨ o.to ≠ [] ∨ o.N ≠ 0)
  · rw [if_pos h4] at h; cases h
  refine ⟨by omega, by omega, by omega, by omega, fun hk => ?_, fun hk => ?_⟩
  · exact ⟨fun e => h3 ⟨hk, .inl e⟩, by
      by_cases h5 : o.N < 1
      · exact absurd ⟨hk, .inr (.inl h5)⟩ h3
      · omega, by
      by_cases h5 : 1099511627776 < o.N
      · exact absurd ⟨hk, .inr (.inr h5)⟩ h3
      · omega⟩
  · refine ⟨fun e => h4 ⟨hk, .inl e⟩, ?_, ?_⟩
    · by_cases h5 : o.to = []
      · exact h5
      · exact absurd ⟨hk, .inr (.inl h5)⟩ h4
    · by_cases h5 : o.N = 0
      · exact h5
      · exact absurd ⟨hk, .inr (.inr h5)⟩ h4
theorem doE_ok (h : doE C K o = 0) : chk o = 0 ∧ (o.k = 1 → o.nm ∉ K ∧ K.length ≤ 16) ∧ (o.k = 2 → o.nm ∈ K ∧ C o.nm = 0) ∧ (o.k = 3 → o.nm ∈ K ∧ o.to ∈ K ∧ (o.nm ≠ [] → o.N ≤ C o.nm) ∧ (o.to ≠ [] → C o.to + o.N ≤ 1099511627776)) := by
  unfold doE at h
  have hc : chk o = 0 := by
    by_cases hc : chk o = 0
    · exact hc
    · rw [if_pos hc] at h; exact absurd h hc
  rw [if_neg (by simp [hc])] at h
  refine ⟨hc, fun hk => ?_, fun hk => ?_, fun hk => ?_⟩
  · rw [if_pos hk] at h
    by_cases h1 : o.nm ∈ K
    · rw [if_pos h1] at h; cases h
    · rw [if_neg h1] at h
      by_cases h2 : 16 < K.length
      · rw [if_pos h2] at h; cases h
      · exact ⟨h1, by omega⟩
  · rw [if_neg (by omega)] at h
    by_cases h1 : o.nm ∉ K
    · rw [if_pos h1] at h; cases h
    · rw [if_neg h1, if_pos hk] at h
      by_cases h2 : C o.nm ≠ 0
      · rw [if_pos h2] at h; cases h
      · exact ⟨Classical.not_not.1 h1, Classical.not_not.1 h2⟩
  · rw [if_neg (by omega)] at h
    by_cases h1 : o.nm ∉ K
    · rw [if_pos h1] at h; cases h
    · rw [if_neg h1, if_neg (by omega)] at h
      by_cases h2 : o.to ∉ K
      · rw [if_pos h2] at h; cases h
      · rw [if_neg h2] at h
        by_cases h3 : o.nm ≠ [] ∧ C o.nm < o.N
        · rw [if_pos h3] at h; cases h
        · rw [if_neg h3] at h
          by_cases h4 : o.to ≠ [] ∧ 1099511627776 < C o.to + o.N
          · rw [if_pos h4] at h; cases h
          · exact ⟨Classical.not_not.1 h1, Classical.not_not.1 h2, fun e => by
              by_cases h5 : C o.nm < o.N
              · exact absurd ⟨e, h5⟩ h3
              · omega, fun e => by
              by_cases h5 : 1099511627776 < C o.to + o.N
              · exact absurd ⟨e, h5⟩ h4
              · omega⟩
theorem newC_move (hk : o.k = 3) : newC C o = fun y => if y = o.to then C o.to + o.N else if y = o.nm then C o.nm - o.N else C y := by unfold newC; rw [if_pos hk]
theorem newC_stay (hk : o.k ≠ 3) : newC C o = C := by unfold newC; rw [if_neg hk]
theorem Book.put (h : Book C K) (hd : doE C K o = 0) : Book (newC C o) (newK K o) := by
  obtain ⟨hc, h1, h2, h3⟩ := doE_ok hd
  obtain ⟨c1, c2, c3, c4, c5, c6⟩ := chk_ok hc
  by_cases hk3 : o.k = 3
  · obtain ⟨a1, a2, a3, a4⟩ := h3 hk3
    obtain ⟨b1, b2, b3⟩ := c5 hk3
    have hK : newK K o = K := by unfold newK; rw [if_neg (by omega), if_neg (by omega)]
    rw [hK, newC_move hk3]
    refine ⟨h.nd, fun x hx => ?_, h.house, fun x hx => ?_, fun x hx => ?_, h.nm, h.le⟩
    · show (if x = o.to then _ else if x = o.nm then _ else _) = _
      rw [if_neg (fun e => hx (by rw [e]; exact a2)), if_neg (fun e => hx (by rw [e]; exact a1))]
      exact h.out x hx
    · show 0 ≤ (if x = o.to then _ else if x = o.nm then _ else _)
      split
      · rename_i e; subst e; have := h.lo _ hx; omega
      · split
        · rename_i e; subst e; have := a3 hx; omega
        · exact h.lo x hx
    · show (if x = o.to then _ else if x = o.nm then _ else _) ≤ _
      split
      · rename_i e; subst e; exact a4 hx
      · split
        · rename_i e; subst e; have := h.hi _ hx; omega
        · exact h.hi x hx
  · obtain ⟨b1, b2, b3⟩ := c6 hk3
    rw [newC_stay hk3]
    by_cases hk1 : o.k = 1
    · obtain ⟨a1, a2⟩ := h1 hk1
      have hK : newK K o = o.nm :: K := by unfold newK; rw [if_pos hk1]
      rw [hK]
      exact ⟨List.nodup_cons.2 ⟨a1, h.nd⟩, fun x hx => h.out x fun e => hx (List.mem_cons_of_mem _ e), List.mem_cons_of_mem _ h.house, h.lo, h.hi, fun x hx => by
        rcases List.mem_cons.1 hx with rfl | hx
        · exact c3
        · exact h.nm x hx, by rw [List.length_cons]; omega⟩
    · have hk2 : o.k = 2 := by omega
      obtain ⟨a1, a2⟩ := h2 hk2
      have hK : newK K o = K.erase o.nm := by unfold newK; rw [if_neg hk1, if_pos hk2]
      rw [hK]
      exact ⟨h.nd.erase _, fun x hx => by
        by_cases hxn : x = o.nm
        · rw [hxn]; exact a2
        · exact h.out x fun e => hx ((List.mem_erase_of_ne hxn).2 e), (List.mem_erase_of_ne (fun e => b1 e.symm)).2 h.house, h.lo, h.hi, fun x hx => h.nm x (List.mem_of_mem_erase hx), Nat.le_trans List.length_erase_le h.le⟩
theorem Book.did (h : Book C K) : Book (doC C K o) (doK C K o) := by
  unfold doC doK
  by_cases hd : doE C K o = 0
  · rw [if_pos hd, if_pos hd]; exact h.put hd
  · rw [if_neg hd, if_neg hd]; exact h
/-! ### in memory -/
theorem law9 : Keyed Try.prog 9 := string_keyed Try.underlying9
theorem zero3 (w : World) : (zeroValue 3).run Try.prog w = .ok (.int .i64 0) w := Try.zeroValue3 w
abbrev Dm := DataW Unit
/-- The map: what it reads as. -/
structure CntM (w : World) (mb n : Nat) (D : Dm) (C : Nm → Int) (K : List Nm) : Prop where
  own : w.ownsMap Try.prog 9 (plainElem (H := Unit) Try.prog 3) mb n D
  val : ∀ x, D.atKey (.string x) (.lit (.int .i64 0)) = .lit (.int .i64 (C x))
  has : ∀ x, Maps.has D (.string x) = true ↔ x ∈ K
  len : Maps.size D = K.length
structure Sh (w0 w : World) (s mb n : Nat) (C : Nm → Int) (K : List Nm) : Prop where
  hs : w.heap[s]? = some (.cells #[.map (some mb)] 46 (0, 0))
  los : w0.heap.size ≤ s
  lom : w0.heap.size ≤ mb
  map : ∃ D, CntM w mb n D C K
  good : Book C K
  house : -((n : Int) * 1099511627776) ≤ C [] ∧ C [] ≤ (n : Int) * 1099511627776
variable {w0 w w' : World} {s mb n : Nat} {D : Dm}
theorem CntM.turn {S : Nat → Prop} (h : CntM w mb n D C K) (ht : Turn S w w') (hS : ¬ S mb) : CntM w' mb n D C K := by
  refine ⟨?_, h.val, h.has, h.len⟩
  obtain ⟨es, clock, hb, F, hs, hD⟩ := h.own
  exact ⟨es, clock, ht.blk hb hS, F, hs, hD⟩
theorem CntM.blk (h : CntM w mb n D C K) : ∃ es clock, w.heap[mb]? = some (.map es clock) := by
  obtain ⟨es, clock, hb, _⟩ := h.own
  exact ⟨es, clock, hb⟩
theorem Sh.turn {S : Nat → Prop} (h : Sh w0 w s mb n C K) (ht : Turn S w w') (hs : ¬ S s) (hS : ¬ S mb) : Sh w0 w' s mb n C K := by
  obtain ⟨D, hD⟩ := h.map
  exact ⟨ht.blk h.hs hs, h.los, h.lom, ⟨D, hD.turn ht hS⟩, h.good, h.house⟩
theorem Sh.nope (h : Sh w0 w s mb n C K) (ht : Turn Nope w w') : Sh w0 w' s mb n C K := h.turn ht (fun h => h) fun h => h
theorem Sh.cell (h : Sh w0 w s mb n C K) : w.cell? ⟨s, 0, none⟩ = some (.map (some mb)) := by
  have c0 := blk_cell h.hs 0
  simpa using c0
theorem Sh.ne (h : Sh w0 w s mb n C K) : s ≠ mb := by
  rintro rfl
  obtain ⟨D, hD⟩ := h.map
  obtain ⟨es, clock, hb⟩ := hD.blk
  rw [h.hs] at hb; cases hb
theorem CntM.look (h : CntM w mb n D C K) {x : ByteArray} (hx : x.size ≤ maxLen) : (Instr.lookup 44 (.map (some mb)) (.string x) true).run Try.prog w = .ok (.tuple #[.int .i64 (C x.data.toList), .bool (Maps.has D (.string x.data.toList))]) w := by
  obtain ⟨v, ps, hrun, hv⟩ := h.own.look_ok law9 Try.underlying44 (zero3 w) (zd := .lit (.int .i64 0)) (zp := []) (plainElem_int Try.underlying3 (by decide)) (Go.WideMaps.keyOf_string_mk Try.underlying9 hx)
  rw [h.val] at hv
  obtain ⟨c, rfl, hc, _⟩ := plainElem_int_inv Try.underlying3 hv
  injection hc with hc _
  injection hc with hc
  injection hc with _ hc
  rw [hc]; exact hrun
theorem CntM.look1 (h : CntM w mb n D C K) {x : ByteArray} (hx : x.size ≤ maxLen) : (Instr.lookup 44 (.map (some mb)) (.string x) false).run Try.prog w = .ok (.int .i64 (C x.data.toList)) w := by
  obtain ⟨v, ps, hrun, hv⟩ := h.own.lookup law9 Try.underlying44 (zero3 w) (zd := .lit (.int .i64 0)) (zp := []) (plainElem_int Try.underlying3 (by decide)) (Go.WideMaps.keyOf_string_mk Try.underlying9 hx)
  rw [h.val] at hv
  obtain ⟨c, rfl, hc, _⟩ := plainElem_int_inv Try.underlying3 hv
  injection hc with hc _
  injection hc with hc
  injection hc with _ hc
  rw [hc]; exact hrun
theorem CntM.put {x : Nm} {v : Int} {w1 : World} {K' : List Nm} (h : CntM w mb n D C K) (h1 : w1.ownsMap Try.prog 9 (plainElem (H := Unit) Try.prog 3) mb (n + 1) (D.put (.string x) (.lit (.int .i64 v)))) (hK : K' = if x ∈ K then K else x :: K) : CntM w1 mb (n + 1) (D.put (.string x) (.lit (.int .i64 v))) (fun y => if y = x then v else C y) K' := by
  subst hK
  refine ⟨h1, fun y => ?_, fun y => ?_, ?_⟩
  · by_cases hyx : y = x
    · subst hyx
      simp only [if_true]
      exact atKey_put_same h.own.isMap (show WideAt.IsKeyLit (.string y) from trivial) _ _
    · simp only [if_neg hyx]
      rw [atKey_put_other (by simpa using hyx)]
      exact h.val y
  · have hm : y ∈ (if x ∈ K then K else x :: K) ↔ y = x ∨ y ∈ K := by
      split
      · rename_i hx
        exact ⟨.inr, fun h => by rcases h with rfl | h; exact hx; exact h⟩
      · exact List.mem_cons
    rw [hm]
    by_cases hyx : y = x
    · subst hyx
      rw [has_put_same h.own.isMap (show WideAt.IsKeyLit (.string y) from trivial)]
      simp
    · rw [has_put_other (by simpa using hyx), h.has y]
      simp [hyx]
  · rw [size_put (h.own.tidy law9)]
    by_cases hx : x ∈ K
    · rw [if_pos ((h.has x).2 hx), if_pos hx, h.len]
    · rw [if_neg (fun e => hx ((h.has x).1 e)), if_neg hx, h.len]; rfl
theorem CntM.del {x : Nm} {w1 : World} (h : CntM w mb n D C K) (hnd : K.Nodup) (h1 : w1.ownsMap Try.prog 9 (plainElem (H := Unit) Try.prog 3) mb n (D.del (.string x))) : CntM w1 mb n (D.del (.string x)) (fun y => if y = x then 0 else C y) (K.erase x) := by
  refine ⟨h1, fun y => ?_, fun y => ?_, ?_⟩
  · by_cases hyx : y = x
    · subst hyx
      simp only [if_true]
      exact atKey_del_same _
    · simp only [if_neg hyx]
      rw [atKey_del_other (by simpa using hyx)]
      exact h.val y
  · by_cases hyx : y = x
    · subst hyx
      rw [has_del_same]
      simp [hnd.not_mem_erase]
    · rw [has_del_other (by simpa using hyx), h.has y, List.mem_erase_of_ne hyx]
  · have h2 := size_del (k := .string x) (h.own.tidy law9)
    rw [h.len] at h2
    by_cases hx : x ∈ K
    · rw [if_pos ((h.has x).2 hx)] at h2
      rw [List.length_erase_of_mem hx]; omega
    · rw [if_neg (fun e => hx ((h.has x).1 e))] at h2
      rw [List.erase_of_not_mem hx]; omega
theorem CntM.keys (h : CntM w mb n D C K) (hnd : K.Nodup) : K.Perm (strKeys D) := by
  obtain ⟨es, hD, hpw, _⟩ := h.own.entries law9
  obtain ⟨es', hD', hko⟩ := h.own.keysOf
  obtain rfl : es = es' := by rw [hD] at hD'; simpa using hD'
  have hh := h.has
  rw [hD] at hh ⊢
  exact perm_strKeys hpw (fun p hp => by obtain ⟨v, hv⟩ := hko p hp; obtain ⟨x, _, hx, _⟩ := Maps.keyOf_str Try.underlying9 hv; exact ⟨x, hx⟩) hnd fun x => (hh x).symm
end Go.Proofs.Ytlalbmgopbcplaa
