import Derived.Test.YtpcfgigmchndjaaLib
import Derived.Maps.OwnSet
import Derived.Maps.OwnOps
import Derived.Maps.Views
import Derived.Deep.RegionHeld3
namespace Go.Proofs.Ytpcfgigmchndjaa
open Go.RowKit Go.Maps
/-- An access of a process, as it was done. -/
structure Dn where
  who : Int
  k : Int
  c : Int
  old : ByteArray
  nw : ByteArray
  is : Bool
def accCells (d : Dn) : List Value := [.int .i64 d.k, .int .i64 d.c, .string d.old, .string d.nw]
def cntOf (l : List Dn) (x : Int) : Int := ((l.filter fun d => decide (d.who = x)).length : Int)
theorem cnt_le (l : List Dn) (x : Int) : 0 ≤ cntOf l x ∧ cntOf l x ≤ l.length := by
  have := List.length_filter_le (fun d : Dn => decide (d.who = x)) l
  unfold cntOf; omega
theorem law3 : Keyed Try.prog 3 := int_keyed Try.underlying3
theorem zero3 (w : World) : (zeroValue 3).run Try.prog w = .ok (.int .i64 0) w := by kernel_rfl
structure MemAt (w : World) (base : Nat) (F : Nat → Prop) (g bc bm : Nat) (vl : Value) (cs : List ByteArray) (cl log : List Dn) : Prop where
  hd : w.heap[g]? = some (.cells #[.slice (some ⟨bc, 0, none⟩) cs.length cs.length, .map (some bm), vl] 54 (0, 0))
  cells : w.heap[bc]? = some (.cells (cs.map Value.string).toArray 9 (0, 0))
  cnt : ∃ D, w.ownsMap Try.prog 3 (plainElem (H := Unit) Try.prog 3) bm cl.length D ∧ ∀ x, (Lit.int .i64 x).wf = true → D.atKey (.int .i64 x) (.lit (.int .i64 0)) = .lit (.int .i64 (cntOf cl x))
  row : w.ownsRow base 31 4 vl log.length (log.flatMap accCells)
  fg : F g
  fc : F bc
  fm : F bm
  fv : ∀ k, vl.ownBlock = some k → F k
  lt : ∀ k, F k → k < w.heap.size
  lo : ∀ k, F k → base ≤ k
variable {w w' : World} {base : Nat} {F : Nat → Prop} {g bc bm : Nat} {vl : Value} {cs : List ByteArray} {cl log : List Dn}
theorem map_turn {b n : Nat} {D : DataW Unit} {R : Value → Option (DataW Unit × List MemPlace)} (h : w.ownsMap Try.prog 3 R b n D) {S : Nat → Prop} (ht : Turn S w w') (hS : ¬ S b) : w'.ownsMap Try.prog 3 R b n D := by
  obtain ⟨es, clock, hb, r⟩ := h
  exact ⟨es, clock, ht.blk hb hS, r⟩
theorem MemAt.turn (h : MemAt w base F g bc bm vl cs cl log) {S : Nat → Prop} (ht : Turn S w w') (hS : ∀ k, S k → ¬ F k) : MemAt w' base F g bc bm vl cs cl log := by
  refine ⟨ht.blk h.hd (fun hs => hS _ hs h.fg), ht.blk h.cells (fun hs => hS _ hs h.fc), ?_, own_turn h.row ht (fun k hk hs => hS k hs (h.fv k hk)), h.fg, h.fc, h.fm, h.fv, fun k hk => Nat.lt_of_lt_of_le (h.lt k hk) ht.size, h.lo⟩
  obtain ⟨D, hD, hf⟩ := h.cnt
  exact ⟨D, map_turn hD ht (fun hs => hS _ hs h.fm), hf⟩
theorem MemAt.nope (h : MemAt w base F g bc bm vl cs cl log) (ht : Turn Nope w w') : MemAt w' base F g bc bm vl cs cl log := h.turn ht fun _ h => h.elim
/-- A Memory, its blocks in F. -/
def MemIs (w : World) (base : Nat) (F : Nat → Prop) (g : Nat) (cs : List ByteArray) (log : List Dn) : Prop := ∃ bc bm vl, MemAt w base F g bc bm vl cs log log
theorem MemIs.turn (h : MemIs w base F g cs log) {S : Nat → Prop} (ht : Turn S w w') (hS : ∀ k, S k → ¬ F k) : MemIs w' base F g cs log := by
  obtain ⟨bc, bm, vl, h⟩ := h
  exact ⟨bc, bm, vl, h.turn ht hS⟩
theorem MemIs.nope (h : MemIs w base F g cs log) (ht : Turn Nope w w') : MemIs w' base F g cs log := h.turn ht fun _ h => h.elim
theorem MemIs.lt (h : MemIs w base F g cs log) : ∀ k, F k → k < w.heap.size := by obtain ⟨_, _, _, h⟩ := h; exact h.lt
theorem MemIs.lo (h : MemIs w base F g cs log) : ∀ k, F k → base ≤ k := by obtain ⟨_, _, _, h⟩ := h; exact h.lo
theorem MemIs.fg (h : MemIs w base F g cs log) : F g := by obtain ⟨_, _, _, h⟩ := h; exact h.fg

theorem cnt_snoc (l : List Dn) (d : Dn) (x : Int) : cntOf (l ++ [d]) x = if x = d.who then cntOf l x + 1 else cntOf l x := by
  unfold cntOf
  by_cases h : x = d.who
  · subst h; simp
  · have : ¬ d.who = x := fun e => h e.symm
    simp [h, this]
theorem MemAt.mapped (h : MemAt w base F g bc bm vl cs cl log) (d : Dn) {D : DataW Unit} (hf : ∀ x, (Lit.int .i64 x).wf = true → D.atKey (.int .i64 x) (.lit (.int .i64 0)) = .lit (.int .i64 (cntOf cl x))) (hD : w.ownsMap Try.prog 3 (plainElem (H := Unit) Try.prog 3) bm cl.length D)
    (ho : w'.ownsMap Try.prog 3 (plainElem (H := Unit) Try.prog 3) bm (cl.length + 1) (D.put (.int .i64 d.who) (.lit (.int .i64 (cntOf cl d.who + 1))))) (hg : w.grownBy w' (some bm)) : MemAt w' base F g bc bm vl cs (cl ++ [d]) log := by
  have hb : ∀ (k : Nat) (xs : Array Value) (t : TypeId) (z : Nat × Nat), w.heap[k]? = some (.cells xs t z) → some bm ≠ some k := by
    intro k xs t z hk e
    obtain ⟨D', ⟨es, clock, hb, _⟩, _⟩ := h.cnt
    injection e with e
    subst e
    rw [hb] at hk
    injection hk with hk
    cases hk
  refine ⟨blk_grown h.hd hg (hb _ _ _ _ h.hd), blk_grown h.cells hg (hb _ _ _ _ h.cells), ⟨_, by simpa using ho, ?_⟩, ?_, h.fg, h.fc, h.fm, h.fv, fun k hk => Nat.lt_of_lt_of_le (h.lt k hk) hg.size, h.lo⟩
  · intro x hx
    rw [cnt_snoc]
    by_cases hxw : x = d.who
    · subst hxw
      rw [if_pos rfl]
      exact atKey_put_same hD.isMap (show WideAt.IsKeyLit (.int .i64 d.who) from trivial) _ _
    · rw [if_neg hxw]
      rw [atKey_put_other (by simpa using hxw)]
      exact hf x hx
  · refine own_grown h.row hg ?_
    intro k hk e
    rcases h.row.2 with ⟨h1, _⟩ | ⟨g', cap, cur, h1, _, hh, _⟩
    · rw [h1] at hk; simp [Value.ownBlock] at hk
    · rw [h1] at hk
      have : g' = k := by simpa [Value.ownBlock] using hk
      subst this
      exact hb _ _ _ _ hh e
theorem news_new (W : World) (cs : Array Value) (t : TypeId) : ∀ j u, cs.toList[j]? = some u → (W.alloc (.cells cs t)).cell? ((⟨W.heap.size, 0, none⟩ : Addr).add j) = some u := by
  intro j u hj
  rw [show (⟨W.heap.size, 0, none⟩ : Addr).add j = ⟨W.heap.size, j, none⟩ by unfold Addr.add; split <;> simp_all, blk_cell (blk_new W _)]
  simpa using hj
theorem Try.info31 : (Try.prog.info? 31).map (fun i => (i.zero, i.size, i.bytes)) = some (some (.agg #[.int .i64 0, .int .i64 0, .string ⟨#[]⟩, .string ⟨#[]⟩]), 4, 48) := by kernel_rfl
theorem list_ne {a b : ByteArray} (h : a ≠ b) : (a.toList == b.toList) = false := by
  rw [beq_eq_false_iff_ne]
  intro e
  apply h
  rw [ByteArray.toList_eq, ByteArray.toList_eq] at e
  rcases a with ⟨⟨a⟩⟩
  rcases b with ⟨⟨b⟩⟩
  simp at e
  rw [e]
theorem Try.info9 : (Try.prog.info? 9).map (fun i => (i.zero, i.size, i.bytes)) = some (some (.string ⟨#[]⟩), 1, 16) := by kernel_rfl
set_option maxHeartbeats 4000000 in
theorem len_any (w : World) (hm : MemIs w base F g cs log) : Calls Try.prog 13 #[.pointer (some ⟨g, 0, none⟩)] w fun e w' => e = .returned (.int .i64 cs.length) ∧ w' = w := by
  obtain ⟨bc, bm, vl, hm⟩ := hm
  have c0 := blk_cell hm.hd 0
  simp at c0
  have HM := Lib.hid hm
  clear hm
  go_enter Try.func13, Try.ntmps13
  go_wp2
  go_ret
  exact ⟨rfl, rfl⟩
set_option maxHeartbeats 4000000 in
theorem all_any (w : World) (hm : MemIs w base F g cs log) : Calls Try.prog 12 #[.pointer (some ⟨g, 0, none⟩)] w fun e w' => e = .returned (.int .i64 log.length) ∧ w' = w := by
  obtain ⟨bc, bm, vl, hm⟩ := hm
  obtain ⟨A, c, rfl, hc⟩ := own_slice hm.row
  have c0 := blk_cell hm.hd 2
  simp at c0
  have HM := Lib.hid hm
  clear hm
  go_enter Try.func12, Try.ntmps12
  go_wp2
  go_ret
  exact ⟨rfl, rfl⟩
set_option maxHeartbeats 4000000 in
theorem count_any (w : World) (hm : MemIs w base F g cs log) (x : Int) (hx : (Lit.int .i64 x).wf = true) : Calls Try.prog 11 #[.pointer (some ⟨g, 0, none⟩), .int .i64 x] w fun e w' => e = .returned (.int .i64 (cntOf log x)) ∧ w' = w := by
  obtain ⟨bc, bm, vl, hm⟩ := hm
  have c1 := blk_cell hm.hd 1
  simp at c1
  obtain ⟨D, hown, hf⟩ := hm.cnt
  have hF := hf x hx
  have hkey := keyOf_int_mk Try.underlying3 hx
  have HM := Lib.hid hm
  have HO := Lib.hid hown
  clear hm hf hown
  have HH := Lib.hid hF
  clear hF
  go_enter Try.func11, Try.ntmps11
  go_wp2_with (first | (at_lookup; refine wpList_lookup_own_int _ rfl _ _ 26 rfl 3 3 .i64 law3 Try.underlying26 Try.underlying3 (zero3 _) bm _ D rfl HO.out _ _ rfl hkey ?_; intro c hat hwc) | fail)
  go_ret
  rw [HH.out] at hat
  exact ⟨by simp at hat; rw [hat]; rfl, rfl⟩
set_option maxHeartbeats 4000000 in
theorem look_in (w : World) (hm : MemIs w base F g cs log) (j : Nat) (s : ByteArray) (hj : cs[j]? = some s) : Calls Try.prog 15 #[.pointer (some ⟨g, 0, none⟩), .int .i64 (j : Int)] w fun e w' => e = .returned (.string s) ∧ Turn Nope w w' := by
  obtain ⟨bc, bm, vl, hm⟩ := hm
  have c0 := blk_cell hm.hd 0
  have c1 := blk_cell hm.cells j
  simp [hj] at c0 c1
  have hl : j < cs.length := (List.getElem?_eq_some_iff.1 hj).1
  have h1 : decide ((j : Int) < 0) = false := by simp
  have h2 : decide ((cs.length : Int) ≤ (j : Int)) = false := by simp; omega
  have HM := Lib.hid hm
  clear hm hj
  go_enter Try.func15, Try.ntmps15
  go_wp2_with (go_quiet (fail))
  go_ret
  exact ⟨rfl, by repeat (first | exact Turn.refl _ _ | apply Turn.alloc | apply Turn.drewN | apply Turn.drew)⟩
set_option maxHeartbeats 4000000 in
theorem look_out (w : World) (hm : MemIs w base F g cs log) (c : Int) (hc : c < 0 ∨ (cs.length : Int) ≤ c) : Calls Try.prog 15 #[.pointer (some ⟨g, 0, none⟩), .int .i64 c] w fun e w' => e = .returned (.string ⟨#[]⟩) ∧ Turn Nope w w' := by
  obtain ⟨bc, bm, vl, hm⟩ := hm
  have c0 := blk_cell hm.hd 0
  simp at c0
  have HM := Lib.hid hm
  clear hm
  by_cases h0 : c < 0
  · have h1 : decide (c < 0) = true := by simpa using h0
    clear hc
    go_enter Try.func15, Try.ntmps15
    go_wp2_with (go_quiet (fail))
    go_ret
    exact ⟨rfl, by repeat (first | exact Turn.refl _ _ | apply Turn.alloc | apply Turn.drewN | apply Turn.drew)⟩
  · have h1 : decide (c < 0) = false := by simpa using h0
    have h2 : decide ((cs.length : Int) ≤ c) = true := by simp; omega
    clear hc
    go_enter Try.func15, Try.ntmps15
    go_wp2_with (go_quiet (fail))
    go_ret
    exact ⟨rfl, by repeat (first | exact Turn.refl _ _ | apply Turn.alloc | apply Turn.drewN | apply Turn.drew)⟩

theorem make_cells (k : Nat) (hk : k ≤ 65536) : ∀ W : World, (Instr.makeSlice 35 (.int .i64 (k : Int)) (.int .i64 (k : Int))).run Try.prog W = .ok (.slice (some ⟨W.heap.size, 0, none⟩) k k) (W.alloc (.cells (madeCells #[.string ⟨#[]⟩] k) 9)) := fun W =>
  run_make_row' 35 9 (.string ⟨#[]⟩) 16 Try.underlying35 Try.info9 rfl .i64 .i64 k (by omega) (by omega) W
theorem made_str (k : Nat) : madeCells #[.string ⟨#[]⟩] k = ((List.replicate k (⟨#[]⟩ : ByteArray)).map Value.string).toArray := by
  apply Array.ext_getElem?
  intro i
  by_cases hi : i < k
  · simp [madeCells, hi, Nat.mod_one]
  · simp [madeCells, hi]
theorem make_map : ∀ W : World, (Instr.makeMap 26 none).run Try.prog W = .ok (.map (some W.heap.size)) (W.alloc (.map #[] 0)) := fun W => by
  kernel_rfl
attribute [local go_sem] lib_max2 lib_min2 lib_max_two lib_min_two
set_option maxHeartbeats 4000000 in
theorem new_any (n : Nat) (hn : n ≤ 65536) (w : World) : Calls Try.prog 9 #[.int .i64 (n : Int)] w fun e w' => ∃ g, e = .returned (.pointer (some ⟨g, 0, none⟩)) ∧ MemIs w' w.heap.size (fun k => w.heap.size ≤ k ∧ k < w'.heap.size) g (List.replicate n ⟨#[]⟩) [] ∧ Turn Nope w w' := by
  have hmk := make_cells n hn
  have hmp := make_map
  have hmax2 : (if 0 < n then (n : Int) else (0 : Int)) = (n : Int) := by split <;> omega
  have hmin : (if (65536 : Int) < (n : Int) then (65536 : Int) else (n : Int)) = (n : Int) := if_neg (by omega)
  have hmax : (if (0 : Int) < (n : Int) then (n : Int) else (0 : Int)) = (n : Int) := by split <;> omega
  go_enter Try.func9, Try.ntmps9
  go_wp2_with fail
  go_ret
  have b0 := blk_new w (.cells (madeCells #[.string ⟨#[]⟩] n) 9)
  have b1 := blk_alloc b0 (.map #[] 0)
  have hs1 : (w.alloc (.cells (madeCells #[.string ⟨#[]⟩] n) 9)).heap.size = w.heap.size + 1 := by simp
  have m0 := World.ownsMap_made (H := Unit) (w.alloc (.cells (madeCells #[.string ⟨#[]⟩] n) 9)) Try.prog 3 (plainElem Try.prog 3)
  refine ⟨_, rfl, ⟨w.heap.size, w.heap.size + 1, .slice none 0 0, ⟨?_, ?_, ?_, ?_, ?_, ?_, ?_, ?_, ?_, ?_⟩⟩, ?_⟩
  · rw [List.length_replicate]
    have hs2 : ((w.alloc (.cells (madeCells #[.string ⟨#[]⟩] n) 9)).alloc (.map #[] 0)).heap.size = w.heap.size + 1 + 1 := by simp
    rw [← hs2]
    exact blk_new _ _
  · rw [← made_str]
    exact blk_alloc b1 _
  · refine ⟨.map [], ?_, ?_⟩
    · have m1 := m0.alloc (.cells #[.slice (some ⟨w.heap.size, 0, none⟩) n n, .map (some (w.alloc (.cells (madeCells #[.string ⟨#[]⟩] n) 9)).heap.size), .slice none 0 0] 54)
      rw [hs1] at m1
      exact m1
    · intro x _; rfl
  · exact ⟨rfl, .inl ⟨rfl, rfl⟩⟩
  all_goals first
    | exact ((((Turn.refl Nope w).alloc _).alloc _).alloc _)
    | (intro k hk; exact hk.2)
    | (intro k hk; exact hk.1)
    | (show _ ≤ _ ∧ _ < _; simp; done)
    | (show _ ≤ _ ∧ _ < _; simp; omega)
    | (intro k hk; cases hk)
end Go.Proofs.Ytpcfgigmchndjaa
