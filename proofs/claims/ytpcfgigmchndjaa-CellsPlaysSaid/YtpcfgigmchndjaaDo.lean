import Derived.Test.YtpcfgigmchndjaaLog
import Derived.Deep.RegionLaw
namespace Go.Proofs.Ytpcfgigmchndjaa
open Go.RowKit Go.Maps
variable {w w' : World} {base : Nat} {F : Nat → Prop} {g bc bm : Nat} {vl : Value} {cs : List ByteArray} {cl log : List Dn}
theorem wf_small (n : Int) (h0 : -9223372036854775808 ≤ n) (h1 : n ≤ 9223372036854775807) : (Lit.int .i64 n).wf = true := by
  simp [Lit.wf, IntKind.min, IntKind.max, IntKind.signed, IntKind.bits]
  omega
theorem cnt_wrap {log : List Dn} {who : Int} (hl : log.length ≤ 1000) : wrap64 (cntOf log who + 1) = cntOf log who + 1 := by
  have := cnt_le log who
  exact IntWalk.wrap64_in _ ⟨by omega, by omega⟩
theorem cnt_wf {log : List Dn} {who : Int} (hl : log.length ≤ 1000) : (Lit.int .i64 (cntOf log who + 1)).wf = true := by
  have := cnt_le log who
  exact wf_small _ (by omega) (by omega)
theorem log_lt {log : List Dn} (hl : log.length ≤ 1000) : log.length < maxLen := Nat.lt_of_le_of_lt hl (by decide)
def accV (k c : Int) (old nw : ByteArray) : Value := .agg #[.int .i64 k, .int .i64 c, .string old, .string nw]
set_option maxHeartbeats 4000000 in
theorem do_out (w : World) (hm : MemIs w base F g cs log) (who k c : Int) (old nw : ByteArray) (hc : c < 0 ∨ (cs.length : Int) ≤ c) :
    Calls Try.prog 10 #[.pointer (some ⟨g, 0, none⟩), .int .i64 who, accV k c old nw] w fun e w' => e = .returned (.tuple #[.string ⟨#[]⟩, .bool false, .int .i64 6]) ∧ Turn Nope w w' := by
  obtain ⟨bc, bm, vl, hm⟩ := hm
  have d0 := blk_cell (blk_alloc hm.hd (.cells #[.int .i64 k, .int .i64 c, .string old, .string nw] 31)) 0
  simp at d0
  have HM := Lib.hid hm
  clear hm
  by_cases h0 : c < 0
  · have h1 : decide (c < 0) = true := by simpa using h0
    clear hc
    go_enter Try.func10, Try.ntmps10
    unfold accV
    go_wp2_with (go_quiet (fail))
    go_ret3
    exact ⟨rfl, by repeat (first | exact Turn.refl _ _ | apply Turn.alloc | apply Turn.drewN | apply Turn.drew)⟩
  · have h1 : decide (c < 0) = false := by simpa using h0
    have h2 : decide ((cs.length : Int) ≤ c) = true := by simp; omega
    clear hc
    go_enter Try.func10, Try.ntmps10
    unfold accV
    go_wp2_with (go_quiet (fail))
    go_ret3
    exact ⟨rfl, by repeat (first | exact Turn.refl _ _ | apply Turn.alloc | apply Turn.drewN | apply Turn.drew)⟩
set_option maxHeartbeats 4000000 in
theorem do_kind (w : World) (hm : MemIs w base F g cs log) (who k : Int) (j : Nat) (hj : j < cs.length) (old nw : ByteArray) (hk : k < 1 ∨ 3 < k) :
    Calls Try.prog 10 #[.pointer (some ⟨g, 0, none⟩), .int .i64 who, accV k (j : Int) old nw] w fun e w' => e = .returned (.tuple #[.string ⟨#[]⟩, .bool false, .int .i64 5]) ∧ Turn Nope w w' := by
  obtain ⟨bc, bm, vl, hm⟩ := hm
  have d0 := blk_cell (blk_alloc hm.hd (.cells #[.int .i64 k, .int .i64 (j : Int), .string old, .string nw] 31)) 0
  simp at d0
  have HM := Lib.hid hm
  clear hm
  have h1 : decide ((j : Int) < 0) = false := by simp
  have h2 : decide ((cs.length : Int) ≤ (j : Int)) = false := by simp; omega
  have h2' : decide (cs.length ≤ j) = false := by simp; omega
  by_cases h0 : k < 1
  · have h3 : decide (k < 1) = true := by simpa using h0
    clear hk
    go_enter Try.func10, Try.ntmps10
    unfold accV
    go_wp2_with (go_quiet (fail))
    go_ret3
    exact ⟨rfl, by repeat (first | exact Turn.refl _ _ | apply Turn.alloc | apply Turn.drewN | apply Turn.drew)⟩
  · have h3 : decide (k < 1) = false := by simpa using h0
    have h4 : decide (3 < k) = true := by simp; omega
    clear hk
    go_enter Try.func10, Try.ntmps10
    unfold accV
    go_wp2_with (go_quiet (fail))
    go_ret3
    exact ⟨rfl, by repeat (first | exact Turn.refl _ _ | apply Turn.alloc | apply Turn.drewN | apply Turn.drew)⟩

set_option maxHeartbeats 4000000 in
theorem do_read (w : World) (hm : MemIs w base F g cs log) (hl : log.length ≤ 1000) (who : Int) (hw : (Lit.int .i64 who).wf = true) (j : Nat) (s : ByteArray) (hj : cs[j]? = some s) (old nw : ByteArray) :
    Calls Try.prog 10 #[.pointer (some ⟨g, 0, none⟩), .int .i64 who, accV 1 (j : Int) old nw] w fun e w' => e = .returned (.tuple #[.string s, .bool true, .int .i64 0]) ∧
      (∃ F' : Nat → Prop, MemIs w' base F' g cs (log ++ [⟨who, 1, j, old, nw, true⟩]) ∧ ∀ k, F' k → F k ∨ w.heap.size ≤ k) ∧ Turn F w w' := by
  obtain ⟨bc, bm, vl, hm⟩ := hm
  have hjl : j < cs.length := (List.getElem?_eq_some_iff.1 hj).1
  have HMA : Hid (MemAt (w.alloc (.cells #[.int .i64 1, .int .i64 (j : Int), .string old, .string nw] 31)) base F g bc bm vl cs log log) := hm.nope ((Turn.refl _ _).alloc _)
  have BA := Lib.hid (blk_new w (.cells #[.int .i64 1, .int .i64 (j : Int), .string old, .string nw] 31))
  have HLT : Hid (∀ k, F k → k < w.heap.size) := hm.lt
  have d0 := blk_cell HMA.out.hd 0
  have d1 := blk_cell HMA.out.hd 1
  simp at d0 d1
  obtain ⟨D, hown, hf⟩ := hm.cnt
  have hF := hf who hw
  have hkey := keyOf_int_mk Try.underlying3 hw
  have HJ := Lib.hid hj
  have HO := Lib.hid HMA.out.cnt
  have HM := Lib.hid hm
  clear hm hf hown hj
  have HH := Lib.hid hF
  clear hF
  have h1 : decide ((j : Int) < 0) = false := by simp
  have h2 : decide ((cs.length : Int) ≤ (j : Int)) = false := by simp; omega
  have h2' : decide (cs.length ≤ j) = false := by simp; omega
  obtain ⟨i31, hi31, hz31, hs31, hb31⟩ := info_parts Try.info31
  have I31 := Lib.hid (And.intro hi31 (And.intro hz31 (And.intro hs31 hb31)))
  clear hi31 hz31 hs31 hb31
  have HB0 : Hid (base ≤ w.heap.size) := Nat.le_of_lt (Nat.lt_of_le_of_lt (HM.out.lo _ HM.out.fg) (HM.out.lt _ HM.out.fg))
  have HNG : Hid (vl.ownBlock ≠ some g) := fun e => own_ne HM.out.row HM.out.hd (by decide) g e rfl
  have HNB : Hid (vl.ownBlock ≠ some w.heap.size) := fun e => by have := HLT.out _ (HM.out.fv _ e); omega
  obtain ⟨DA, hownA, hfA⟩ := HO.out
  have HFA := Lib.hid (hfA who hw)
  have HOA := Lib.hid hownA
  have HFX := Lib.hid hfA
  clear hfA hownA
  go_enter Try.func10, Try.ntmps10
  unfold accV
  go_wp2_with (first | (at_lookup; refine wpList_lookup_own_int _ rfl _ _ 26 rfl 3 3 .i64 law3 Try.underlying26 Try.underlying3 (zero3 _) bm _ DA rfl HOA.out _ _ rfl hkey ?_; intro cc hat hwc; have hcc : cntOf log who = cc := (by rw [HFA.out] at hat; simpa using hat); clear hat; subst hcc; clear hwc) | (at_mapUpdate; refine wpList_mapUpdate_own _ rfl _ _ _ 26 rfl 3 3 law3 Try.underlying26 _ bm log.length DA rfl HOA.out (log_lt hl) _ _ (.int .i64 who) rfl rfl hkey (.lit (.int .i64 (cntOf log who + 1))) [] (by rw [cnt_wrap hl]; exact plainElem_int Try.underlying3 (cnt_wf hl)) ?_; intro w5 hown1 hgrow1; have HG1 := Lib.hid hgrow1; have HW1 := Lib.hid hown1; clear hgrow1 hown1) | (go_quiet (fail)))
  have HM5 : Hid (MemAt w5 base F g bc bm vl cs (log ++ [⟨who, 1, j, old, nw, true⟩]) log) := (HMA.out.nope ((Turn.refl _ _).drewN _)).mapped ⟨who, 1, j, old, nw, true⟩ HFX.out HOA.out HW1.out HG1.out
  have HBS : Hid (base ≤ (w5.drew.alloc (.cells #[.int .i64 1, .int .i64 (j : Int), .string old, .string nw] 31)).heap.size) := Nat.le_trans (Nat.le_of_lt (Nat.lt_of_le_of_lt (HM5.out.lo _ HM5.out.fg) (HM5.out.lt _ HM5.out.fg))) ((Turn.refl F w5).drew.alloc _).size
  have HT5 : Hid (Turn F w w5) := (((Turn.refl F w).alloc _).drewN _).grown HG1.out (fun k hk => .inl (by injection hk with hk; subst hk; exact HM.out.fm))
  have HB5 : Hid (w5.heap[w.heap.size]? = some (.cells #[.int .i64 1, .int .i64 (j : Int), .string old, .string nw] 31 (0, 0))) := blk_grown (blk_drewN BA.out _) HG1.out (by intro e; injection e with e; have := HLT.out _ HM.out.fm; omega)
  have SAT : Hid (∀ W : World, (W.heap[g]? = some (.cells #[.slice (some ⟨bc, 0, none⟩) cs.length cs.length, .map (some bm), vl] 54 (0, 0)) ∧ W.heap[w.heap.size]? = some (.cells #[.int .i64 1, .int .i64 (j : Int), .string old, .string nw] 31 (0, 0))) →
      W.cell? ⟨g, 2, none⟩ = some vl ∧ W.frozen? ⟨g, 2, none⟩ = false ∧ W.cell? ⟨w.heap.size, 0, none⟩ = some (.int .i64 1) ∧ W.cell? ⟨w.heap.size, 1, none⟩ = some (.int .i64 (j : Int)) ∧ W.cell? ⟨w.heap.size, 2, none⟩ = some (.string old) ∧ W.cell? ⟨w.heap.size, 3, none⟩ = some (.string nw)) := by
    rintro W ⟨h1, h2⟩
    exact ⟨by rw [blk_cell h1]; rfl, blk_frozen h1 2, by rw [blk_cell h2]; rfl, by rw [blk_cell h2]; rfl, by rw [blk_cell h2]; rfl, by rw [blk_cell h2]; rfl⟩
  clear d0 d1
  obtain ⟨p0, p1, p2, p3, p4, p5⟩ := SAT.out w5.drew ⟨blk_drew HM5.out.hd, blk_drew HB5.out⟩
  obtain ⟨q0, q1, q2, q3, q4, q5⟩ := SAT.out (w5.alloc (.cells #[.int .i64 1, .int .i64 (j : Int), .string old, .string nw] 31)).drew ⟨blk_alloc (blk_drew HM5.out.hd) _, blk_alloc (blk_drew HB5.out) _⟩
  go_region_law (first | (refine step_append_lies _ rfl (.tmp 45) (.tmp 47) 52 rfl base 31 i31 _ 4 48 Try.underlying52 I31.out.1 I31.out.2.1 I31.out.2.2.1 I31.out.2.2.2 rfl (by omega) vl log.length (log.flatMap accCells) rfl (own_nope HM5.out.row ((Turn.refl _ _).drew.alloc _)) ⟨w5.heap.size, 0, none⟩ 1 1 [.int .i64 1, .int .i64 (j : Int), .string old, .string nw] rfl rfl (news_new w5.drew _ 31) (by intro u hu; simp at hu; rcases hu with rfl | rfl | rfl | rfl <;> rfl) (by omega) (by show log.length + 1 ≤ 9223372036854775807; omega) (by omega) HBS.out (w5.heap.size + 1) (by simp) ?_; intro g1 cap1 w6 hown hgr hat hlt; have HO6 := Lib.hid hown; have HG6 := Lib.hid hgr; have HA6 := Lib.hid hat; have HL6 := Lib.hid hlt; clear hown hgr hat hlt; have HR6 := Lib.hid (And.intro (blk_grown (blk_alloc (blk_drew HM5.out.hd) _) HG6.out HNG.out) (blk_grown (blk_alloc (blk_drew HB5.out) _) HG6.out HNB.out)); obtain ⟨r0, r1, r2, r3, r4, r5⟩ := SAT.out _ HR6.out; clear p0 p1 p2 p3 p4 p5 q0 q1 q2 q3 q4 q5))
  all_goals
    have HMT := Lib.hid (HM5.out.logged (B := w.heap.size) (by first | exact (Turn.refl _ _).drew.alloc _ | exact ((Turn.refl _ _).alloc _).drew) HG6.out ⟨who, 1, j, old, nw, true⟩ HO6.out (HA6.out.imp id (fun e => by omega)) HL6.out HT5.out.size HB0.out)
    have HB7 : Hid ((w6.setCell ⟨g, 2, none⟩ (.slice (some ⟨g1, 0, none⟩) (log.length + 1) cap1)).heap[w.heap.size]? = some (.cells #[.int .i64 1, .int .i64 (j : Int), .string old, .string nw] 31 (0, 0))) := blk_far HR6.out.2 (by show w.heap.size ≠ g; have := HLT.out _ HM.out.fg; omega) _
    clear HR6 HO6 HG6 HA6 HL6 r0 r1 r2 r3 r4 r5
    generalize w6.setCell ⟨g, 2, none⟩ (.slice (some ⟨g1, 0, none⟩) (log.length + 1) cap1) = w7 at *
    have e0 := blk_cell HMT.out.1.hd 0
    have ea := blk_cell HB7.out 0
    have eb := blk_cell HB7.out 1
    have ec := blk_cell HB7.out 2
    have ed := blk_cell HB7.out 3
    have es := blk_cell HMT.out.1.cells j
    have ef := blk_frozen HMT.out.1.cells j
    simp [HJ.out] at e0 ea eb ec ed es
    go_wp2_with (first | (go_quiet (fail)) | (refine still_tail (id := 10) 9 (by kernel_rfl) (by kernel_rfl) ?_; simp only [List.take_succ_cons, List.take_zero, List.drop_succ_cons, List.drop_zero]; (repeat still_step); refine wpStill_nil ?_))
    go_ret3
    exact ⟨rfl, ⟨_, ⟨bc, bm, _, HMT.out.1.nope (by repeat (first | exact Turn.refl _ _ | apply Turn.drewN | apply Turn.drew))⟩, fun k hk => hk.imp id And.left⟩, by repeat (first | exact HT5.out.trans HMT.out.2 | apply Turn.drewN | apply Turn.drew)⟩

set_option maxHeartbeats 4000000 in
theorem do_write (w : World) (hm : MemIs w base F g cs log) (hl : log.length ≤ 1000) (who : Int) (hw : (Lit.int .i64 who).wf = true) (j : Nat) (s : ByteArray) (hj : cs[j]? = some s) (old nw : ByteArray) :
    Calls Try.prog 10 #[.pointer (some ⟨g, 0, none⟩), .int .i64 who, accV 2 (j : Int) old nw] w fun e w' => e = .returned (.tuple #[.string s, .bool true, .int .i64 0]) ∧
      (∃ F' : Nat → Prop, MemIs w' base F' g (cs.set j nw) (log ++ [⟨who, 2, j, old, nw, true⟩]) ∧ ∀ k, F' k → F k ∨ w.heap.size ≤ k) ∧ Turn F w w' := by
  obtain ⟨bc, bm, vl, hm⟩ := hm
  have hjl : j < cs.length := (List.getElem?_eq_some_iff.1 hj).1
  have HMA : Hid (MemAt (w.alloc (.cells #[.int .i64 2, .int .i64 (j : Int), .string old, .string nw] 31)) base F g bc bm vl cs log log) := hm.nope ((Turn.refl _ _).alloc _)
  have BA := Lib.hid (blk_new w (.cells #[.int .i64 2, .int .i64 (j : Int), .string old, .string nw] 31))
  have HLT : Hid (∀ k, F k → k < w.heap.size) := hm.lt
  have d0 := blk_cell HMA.out.hd 0
  have d1 := blk_cell HMA.out.hd 1
  simp at d0 d1
  obtain ⟨D, hown, hf⟩ := hm.cnt
  have hF := hf who hw
  have hkey := keyOf_int_mk Try.underlying3 hw
  have HJ := Lib.hid hj
  have HO := Lib.hid HMA.out.cnt
  have HM := Lib.hid hm
  clear hm hf hown hj
  have HH := Lib.hid hF
  clear hF
  have h1 : decide ((j : Int) < 0) = false := by simp
  have h2 : decide ((cs.length : Int) ≤ (j : Int)) = false := by simp; omega
  have h2' : decide (cs.length ≤ j) = false := by simp; omega
  obtain ⟨i31, hi31, hz31, hs31, hb31⟩ := info_parts Try.info31
  have I31 := Lib.hid (And.intro hi31 (And.intro hz31 (And.intro hs31 hb31)))
  clear hi31 hz31 hs31 hb31
  have HB0 : Hid (base ≤ w.heap.size) := Nat.le_of_lt (Nat.lt_of_le_of_lt (HM.out.lo _ HM.out.fg) (HM.out.lt _ HM.out.fg))
  have HNG : Hid (vl.ownBlock ≠ some g) := fun e => own_ne HM.out.row HM.out.hd (by decide) g e rfl
  have HNB : Hid (vl.ownBlock ≠ some w.heap.size) := fun e => by have := HLT.out _ (HM.out.fv _ e); omega
  obtain ⟨DA, hownA, hfA⟩ := HO.out
  have HFA := Lib.hid (hfA who hw)
  have HOA := Lib.hid hownA
  have HFX := Lib.hid hfA
  clear hfA hownA
  go_enter Try.func10, Try.ntmps10
  unfold accV
  go_wp2_with (first | (at_lookup; refine wpList_lookup_own_int _ rfl _ _ 26 rfl 3 3 .i64 law3 Try.underlying26 Try.underlying3 (zero3 _) bm _ DA rfl HOA.out _ _ rfl hkey ?_; intro cc hat hwc; have hcc : cntOf log who = cc := (by rw [HFA.out] at hat; simpa using hat); clear hat; subst hcc; clear hwc) | (at_mapUpdate; refine wpList_mapUpdate_own _ rfl _ _ _ 26 rfl 3 3 law3 Try.underlying26 _ bm log.length DA rfl HOA.out (log_lt hl) _ _ (.int .i64 who) rfl rfl hkey (.lit (.int .i64 (cntOf log who + 1))) [] (by rw [cnt_wrap hl]; exact plainElem_int Try.underlying3 (cnt_wf hl)) ?_; intro w5 hown1 hgrow1; have HG1 := Lib.hid hgrow1; have HW1 := Lib.hid hown1; clear hgrow1 hown1) | (go_quiet (fail)))
  have HM5 : Hid (MemAt w5 base F g bc bm vl cs (log ++ [⟨who, 2, j, old, nw, true⟩]) log) := (HMA.out.nope ((Turn.refl _ _).drewN _)).mapped ⟨who, 2, j, old, nw, true⟩ HFX.out HOA.out HW1.out HG1.out
  have HBS : Hid (base ≤ (w5.drew.alloc (.cells #[.int .i64 2, .int .i64 (j : Int), .string old, .string nw] 31)).heap.size) := Nat.le_trans (Nat.le_of_lt (Nat.lt_of_le_of_lt (HM5.out.lo _ HM5.out.fg) (HM5.out.lt _ HM5.out.fg))) ((Turn.refl F w5).drew.alloc _).size
  have HT5 : Hid (Turn F w w5) := (((Turn.refl F w).alloc _).drewN _).grown HG1.out (fun k hk => .inl (by injection hk with hk; subst hk; exact HM.out.fm))
  have HB5 : Hid (w5.heap[w.heap.size]? = some (.cells #[.int .i64 2, .int .i64 (j : Int), .string old, .string nw] 31 (0, 0))) := blk_grown (blk_drewN BA.out _) HG1.out (by intro e; injection e with e; have := HLT.out _ HM.out.fm; omega)
  have SAT : Hid (∀ W : World, (W.heap[g]? = some (.cells #[.slice (some ⟨bc, 0, none⟩) cs.length cs.length, .map (some bm), vl] 54 (0, 0)) ∧ W.heap[w.heap.size]? = some (.cells #[.int .i64 2, .int .i64 (j : Int), .string old, .string nw] 31 (0, 0))) →
      W.cell? ⟨g, 2, none⟩ = some vl ∧ W.frozen? ⟨g, 2, none⟩ = false ∧ W.cell? ⟨w.heap.size, 0, none⟩ = some (.int .i64 2) ∧ W.cell? ⟨w.heap.size, 1, none⟩ = some (.int .i64 (j : Int)) ∧ W.cell? ⟨w.heap.size, 2, none⟩ = some (.string old) ∧ W.cell? ⟨w.heap.size, 3, none⟩ = some (.string nw)) := by
    rintro W ⟨h1, h2⟩
    exact ⟨by rw [blk_cell h1]; rfl, blk_frozen h1 2, by rw [blk_cell h2]; rfl, by rw [blk_cell h2]; rfl, by rw [blk_cell h2]; rfl, by rw [blk_cell h2]; rfl⟩
  clear d0 d1
  obtain ⟨p0, p1, p2, p3, p4, p5⟩ := SAT.out w5.drew ⟨blk_drew HM5.out.hd, blk_drew HB5.out⟩
  obtain ⟨q0, q1, q2, q3, q4, q5⟩ := SAT.out (w5.alloc (.cells #[.int .i64 2, .int .i64 (j : Int), .string old, .string nw] 31)).drew ⟨blk_alloc (blk_drew HM5.out.hd) _, blk_alloc (blk_drew HB5.out) _⟩
  go_region_law (first | (refine step_append_lies _ rfl (.tmp 45) (.tmp 47) 52 rfl base 31 i31 _ 4 48 Try.underlying52 I31.out.1 I31.out.2.1 I31.out.2.2.1 I31.out.2.2.2 rfl (by omega) vl log.length (log.flatMap accCells) rfl (own_nope HM5.out.row ((Turn.refl _ _).drew.alloc _)) ⟨w5.heap.size, 0, none⟩ 1 1 [.int .i64 2, .int .i64 (j : Int), .string old, .string nw] rfl rfl (news_new w5.drew _ 31) (by intro u hu; simp at hu; rcases hu with rfl | rfl | rfl | rfl <;> rfl) (by omega) (by show log.length + 1 ≤ 9223372036854775807; omega) (by omega) HBS.out (w5.heap.size + 1) (by simp) ?_; intro g1 cap1 w6 hown hgr hat hlt; have HO6 := Lib.hid hown; have HG6 := Lib.hid hgr; have HA6 := Lib.hid hat; have HL6 := Lib.hid hlt; clear hown hgr hat hlt; have HR6 := Lib.hid (And.intro (blk_grown (blk_alloc (blk_drew HM5.out.hd) _) HG6.out HNG.out) (blk_grown (blk_alloc (blk_drew HB5.out) _) HG6.out HNB.out)); obtain ⟨r0, r1, r2, r3, r4, r5⟩ := SAT.out _ HR6.out; clear p0 p1 p2 p3 p4 p5 q0 q1 q2 q3 q4 q5))
  all_goals
    have HMT := Lib.hid (HM5.out.logged (B := w.heap.size) (by first | exact (Turn.refl _ _).drew.alloc _ | exact ((Turn.refl _ _).alloc _).drew) HG6.out ⟨who, 2, j, old, nw, true⟩ HO6.out (HA6.out.imp id (fun e => by omega)) HL6.out HT5.out.size HB0.out)
    have HB7 : Hid ((w6.setCell ⟨g, 2, none⟩ (.slice (some ⟨g1, 0, none⟩) (log.length + 1) cap1)).heap[w.heap.size]? = some (.cells #[.int .i64 2, .int .i64 (j : Int), .string old, .string nw] 31 (0, 0))) := blk_far HR6.out.2 (by show w.heap.size ≠ g; have := HLT.out _ HM.out.fg; omega) _
    clear HR6 HO6 HG6 HA6 HL6 r0 r1 r2 r3 r4 r5
    generalize w6.setCell ⟨g, 2, none⟩ (.slice (some ⟨g1, 0, none⟩) (log.length + 1) cap1) = w7 at *
    have e0 := blk_cell HMT.out.1.hd 0
    have ea := blk_cell HB7.out 0
    have eb := blk_cell HB7.out 1
    have ec := blk_cell HB7.out 2
    have ed := blk_cell HB7.out 3
    have es := blk_cell HMT.out.1.cells j
    have ef := blk_frozen HMT.out.1.cells j
    simp [HJ.out] at e0 ea eb ec ed es
    go_wp2_with (first | (go_quiet (fail)) | (refine still_tail (id := 10) 9 (by kernel_rfl) (by kernel_rfl) ?_; simp only [List.take_succ_cons, List.take_zero, List.drop_succ_cons, List.drop_zero]; (repeat still_step); refine wpStill_nil ?_))
    go_ret3
    exact ⟨rfl, ⟨_, ⟨bc, bm, _, (HMT.out.1.nope (by repeat (first | exact Turn.refl _ _ | apply Turn.drewN | apply Turn.drew))).stored j nw⟩, fun k hk => hk.imp id And.left⟩, by repeat (first | exact HT5.out.trans HMT.out.2 | exact Turn.setCell (p := ⟨bc, j, none⟩) (by repeat (first | exact HT5.out.trans HMT.out.2 | apply Turn.drewN | apply Turn.drew)) (.inl HM.out.fc) _ | apply Turn.drewN | apply Turn.drew)⟩

set_option maxHeartbeats 4000000 in
theorem do_swap (w : World) (hm : MemIs w base F g cs log) (hl : log.length ≤ 1000) (who : Int) (hw : (Lit.int .i64 who).wf = true) (j : Nat) (s : ByteArray) (hj : cs[j]? = some s) (old nw : ByteArray) (ho : s = old) :
    Calls Try.prog 10 #[.pointer (some ⟨g, 0, none⟩), .int .i64 who, accV 3 (j : Int) old nw] w fun e w' => e = .returned (.tuple #[.string s, .bool true, .int .i64 0]) ∧
      (∃ F' : Nat → Prop, MemIs w' base F' g (cs.set j nw) (log ++ [⟨who, 3, j, old, nw, true⟩]) ∧ ∀ k, F' k → F k ∨ w.heap.size ≤ k) ∧ Turn F w w' := by
  obtain ⟨bc, bm, vl, hm⟩ := hm
  have hjl : j < cs.length := (List.getElem?_eq_some_iff.1 hj).1
  have HMA : Hid (MemAt (w.alloc (.cells #[.int .i64 3, .int .i64 (j : Int), .string old, .string nw] 31)) base F g bc bm vl cs log log) := hm.nope ((Turn.refl _ _).alloc _)
  have BA := Lib.hid (blk_new w (.cells #[.int .i64 3, .int .i64 (j : Int), .string old, .string nw] 31))
  have HLT : Hid (∀ k, F k → k < w.heap.size) := hm.lt
  have d0 := blk_cell HMA.out.hd 0
  have d1 := blk_cell HMA.out.hd 1
  simp at d0 d1
  obtain ⟨D, hown, hf⟩ := hm.cnt
  have hF := hf who hw
  have hkey := keyOf_int_mk Try.underlying3 hw
  have HJ := Lib.hid hj
  have HO := Lib.hid HMA.out.cnt
  have HM := Lib.hid hm
  clear hm hf hown hj
  have HH := Lib.hid hF
  clear hF
  have h1 : decide ((j : Int) < 0) = false := by simp
  have h2 : decide ((cs.length : Int) ≤ (j : Int)) = false := by simp; omega
  have h2' : decide (cs.length ≤ j) = false := by simp; omega
  obtain ⟨i31, hi31, hz31, hs31, hb31⟩ := info_parts Try.info31
  have I31 := Lib.hid (And.intro hi31 (And.intro hz31 (And.intro hs31 hb31)))
  clear hi31 hz31 hs31 hb31
  have HB0 : Hid (base ≤ w.heap.size) := Nat.le_of_lt (Nat.lt_of_le_of_lt (HM.out.lo _ HM.out.fg) (HM.out.lt _ HM.out.fg))
  have HNG : Hid (vl.ownBlock ≠ some g) := fun e => own_ne HM.out.row HM.out.hd (by decide) g e rfl
  have HNB : Hid (vl.ownBlock ≠ some w.heap.size) := fun e => by have := HLT.out _ (HM.out.fv _ e); omega
  obtain ⟨DA, hownA, hfA⟩ := HO.out
  have HFA := Lib.hid (hfA who hw)
  have HOA := Lib.hid hownA
  have HFX := Lib.hid hfA
  clear hfA hownA
  go_enter Try.func10, Try.ntmps10
  unfold accV
  go_wp2_with (first | (at_lookup; refine wpList_lookup_own_int _ rfl _ _ 26 rfl 3 3 .i64 law3 Try.underlying26 Try.underlying3 (zero3 _) bm _ DA rfl HOA.out _ _ rfl hkey ?_; intro cc hat hwc; have hcc : cntOf log who = cc := (by rw [HFA.out] at hat; simpa using hat); clear hat; subst hcc; clear hwc) | (at_mapUpdate; refine wpList_mapUpdate_own _ rfl _ _ _ 26 rfl 3 3 law3 Try.underlying26 _ bm log.length DA rfl HOA.out (log_lt hl) _ _ (.int .i64 who) rfl rfl hkey (.lit (.int .i64 (cntOf log who + 1))) [] (by rw [cnt_wrap hl]; exact plainElem_int Try.underlying3 (cnt_wf hl)) ?_; intro w5 hown1 hgrow1; have HG1 := Lib.hid hgrow1; have HW1 := Lib.hid hown1; clear hgrow1 hown1) | (go_quiet (fail)))
  have HM5 : Hid (MemAt w5 base F g bc bm vl cs (log ++ [⟨who, 3, j, old, nw, true⟩]) log) := (HMA.out.nope ((Turn.refl _ _).drewN _)).mapped ⟨who, 3, j, old, nw, true⟩ HFX.out HOA.out HW1.out HG1.out
  have HBS : Hid (base ≤ (w5.drew.alloc (.cells #[.int .i64 3, .int .i64 (j : Int), .string old, .string nw] 31)).heap.size) := Nat.le_trans (Nat.le_of_lt (Nat.lt_of_le_of_lt (HM5.out.lo _ HM5.out.fg) (HM5.out.lt _ HM5.out.fg))) ((Turn.refl F w5).drew.alloc _).size
  have HT5 : Hid (Turn F w w5) := (((Turn.refl F w).alloc _).drewN _).grown HG1.out (fun k hk => .inl (by injection hk with hk; subst hk; exact HM.out.fm))
  have HB5 : Hid (w5.heap[w.heap.size]? = some (.cells #[.int .i64 3, .int .i64 (j : Int), .string old, .string nw] 31 (0, 0))) := blk_grown (blk_drewN BA.out _) HG1.out (by intro e; injection e with e; have := HLT.out _ HM.out.fm; omega)
  have SAT : Hid (∀ W : World, (W.heap[g]? = some (.cells #[.slice (some ⟨bc, 0, none⟩) cs.length cs.length, .map (some bm), vl] 54 (0, 0)) ∧ W.heap[w.heap.size]? = some (.cells #[.int .i64 3, .int .i64 (j : Int), .string old, .string nw] 31 (0, 0))) →
      W.cell? ⟨g, 2, none⟩ = some vl ∧ W.frozen? ⟨g, 2, none⟩ = false ∧ W.cell? ⟨w.heap.size, 0, none⟩ = some (.int .i64 3) ∧ W.cell? ⟨w.heap.size, 1, none⟩ = some (.int .i64 (j : Int)) ∧ W.cell? ⟨w.heap.size, 2, none⟩ = some (.string old) ∧ W.cell? ⟨w.heap.size, 3, none⟩ = some (.string nw)) := by
    rintro W ⟨h1, h2⟩
    exact ⟨by rw [blk_cell h1]; rfl, blk_frozen h1 2, by rw [blk_cell h2]; rfl, by rw [blk_cell h2]; rfl, by rw [blk_cell h2]; rfl, by rw [blk_cell h2]; rfl⟩
  clear d0 d1
  obtain ⟨p0, p1, p2, p3, p4, p5⟩ := SAT.out w5.drew ⟨blk_drew HM5.out.hd, blk_drew HB5.out⟩
  obtain ⟨q0, q1, q2, q3, q4, q5⟩ := SAT.out (w5.alloc (.cells #[.int .i64 3, .int .i64 (j : Int), .string old, .string nw] 31)).drew ⟨blk_alloc (blk_drew HM5.out.hd) _, blk_alloc (blk_drew HB5.out) _⟩
  go_region_law (first | (refine step_append_lies _ rfl (.tmp 45) (.tmp 47) 52 rfl base 31 i31 _ 4 48 Try.underlying52 I31.out.1 I31.out.2.1 I31.out.2.2.1 I31.out.2.2.2 rfl (by omega) vl log.length (log.flatMap accCells) rfl (own_nope HM5.out.row ((Turn.refl _ _).drew.alloc _)) ⟨w5.heap.size, 0, none⟩ 1 1 [.int .i64 3, .int .i64 (j : Int), .string old, .string nw] rfl rfl (news_new w5.drew _ 31) (by intro u hu; simp at hu; rcases hu with rfl | rfl | rfl | rfl <;> rfl) (by omega) (by show log.length + 1 ≤ 9223372036854775807; omega) (by omega) HBS.out (w5.heap.size + 1) (by simp) ?_; intro g1 cap1 w6 hown hgr hat hlt; have HO6 := Lib.hid hown; have HG6 := Lib.hid hgr; have HA6 := Lib.hid hat; have HL6 := Lib.hid hlt; clear hown hgr hat hlt; have HR6 := Lib.hid (And.intro (blk_grown (blk_alloc (blk_drew HM5.out.hd) _) HG6.out HNG.out) (blk_grown (blk_alloc (blk_drew HB5.out) _) HG6.out HNB.out)); obtain ⟨r0, r1, r2, r3, r4, r5⟩ := SAT.out _ HR6.out; clear p0 p1 p2 p3 p4 p5 q0 q1 q2 q3 q4 q5))
  all_goals
    have HMT := Lib.hid (HM5.out.logged (B := w.heap.size) (by first | exact (Turn.refl _ _).drew.alloc _ | exact ((Turn.refl _ _).alloc _).drew) HG6.out ⟨who, 3, j, old, nw, true⟩ HO6.out (HA6.out.imp id (fun e => by omega)) HL6.out HT5.out.size HB0.out)
    have HB7 : Hid ((w6.setCell ⟨g, 2, none⟩ (.slice (some ⟨g1, 0, none⟩) (log.length + 1) cap1)).heap[w.heap.size]? = some (.cells #[.int .i64 3, .int .i64 (j : Int), .string old, .string nw] 31 (0, 0))) := blk_far HR6.out.2 (by show w.heap.size ≠ g; have := HLT.out _ HM.out.fg; omega) _
    clear HR6 HO6 HG6 HA6 HL6 r0 r1 r2 r3 r4 r5
    generalize w6.setCell ⟨g, 2, none⟩ (.slice (some ⟨g1, 0, none⟩) (log.length + 1) cap1) = w7 at *
    have e0 := blk_cell HMT.out.1.hd 0
    have ea := blk_cell HB7.out 0
    have eb := blk_cell HB7.out 1
    have ec := blk_cell HB7.out 2
    have ed := blk_cell HB7.out 3
    have es := blk_cell HMT.out.1.cells j
    have ef := blk_frozen HMT.out.1.cells j
    simp [HJ.out] at e0 ea eb ec ed es
    subst ho; have ho1 : (s.toList == s.toList) = true := beq_self_eq_true _; go_wp2_with (first | (go_quiet (fail)) | (refine still_tail (id := 10) 9 (by kernel_rfl) (by kernel_rfl) ?_; simp only [List.take_succ_cons, List.take_zero, List.drop_succ_cons, List.drop_zero]; (repeat still_step); refine wpStill_nil ?_))
    go_ret3
    exact ⟨rfl, ⟨_, ⟨bc, bm, _, (HMT.out.1.nope (by repeat (first | exact Turn.refl _ _ | apply Turn.drewN | apply Turn.drew))).stored j nw⟩, fun k hk => hk.imp id And.left⟩, by repeat (first | exact HT5.out.trans HMT.out.2 | exact Turn.setCell (p := ⟨bc, j, none⟩) (by repeat (first | exact HT5.out.trans HMT.out.2 | apply Turn.drewN | apply Turn.drew)) (.inl HM.out.fc) _ | apply Turn.drewN | apply Turn.drew)⟩

set_option maxHeartbeats 4000000 in
theorem do_miss (w : World) (hm : MemIs w base F g cs log) (hl : log.length ≤ 1000) (who : Int) (hw : (Lit.int .i64 who).wf = true) (j : Nat) (s : ByteArray) (hj : cs[j]? = some s) (old nw : ByteArray) (ho : s ≠ old) :
    Calls Try.prog 10 #[.pointer (some ⟨g, 0, none⟩), .int .i64 who, accV 3 (j : Int) old nw] w fun e w' => e = .returned (.tuple #[.string s, .bool false, .int .i64 0]) ∧
      (∃ F' : Nat → Prop, MemIs w' base F' g cs (log ++ [⟨who, 3, j, old, nw, false⟩]) ∧ ∀ k, F' k → F k ∨ w.heap.size ≤ k) ∧ Turn F w w' := by
  obtain ⟨bc, bm, vl, hm⟩ := hm
  have hjl : j < cs.length := (List.getElem?_eq_some_iff.1 hj).1
  have HMA : Hid (MemAt (w.alloc (.cells #[.int .i64 3, .int .i64 (j : Int), .string old, .string nw] 31)) base F g bc bm vl cs log log) := hm.nope ((Turn.refl _ _).alloc _)
  have BA := Lib.hid (blk_new w (.cells #[.int .i64 3, .int .i64 (j : Int), .string old, .string nw] 31))
  have HLT : Hid (∀ k, F k → k < w.heap.size) := hm.lt
  have d0 := blk_cell HMA.out.hd 0
  have d1 := blk_cell HMA.out.hd 1
  simp at d0 d1
  obtain ⟨D, hown, hf⟩ := hm.cnt
  have hF := hf who hw
  have hkey := keyOf_int_mk Try.underlying3 hw
  have HJ := Lib.hid hj
  have HO := Lib.hid HMA.out.cnt
  have HM := Lib.hid hm
  clear hm hf hown hj
  have HH := Lib.hid hF
  clear hF
  have h1 : decide ((j : Int) < 0) = false := by simp
  have h2 : decide ((cs.length : Int) ≤ (j : Int)) = false := by simp; omega
  have h2' : decide (cs.length ≤ j) = false := by simp; omega
  obtain ⟨i31, hi31, hz31, hs31, hb31⟩ := info_parts Try.info31
  have I31 := Lib.hid (And.intro hi31 (And.intro hz31 (And.intro hs31 hb31)))
  clear hi31 hz31 hs31 hb31
  have HB0 : Hid (base ≤ w.heap.size) := Nat.le_of_lt (Nat.lt_of_le_of_lt (HM.out.lo _ HM.out.fg) (HM.out.lt _ HM.out.fg))
  have HNG : Hid (vl.ownBlock ≠ some g) := fun e => own_ne HM.out.row HM.out.hd (by decide) g e rfl
  have HNB : Hid (vl.ownBlock ≠ some w.heap.size) := fun e => by have := HLT.out _ (HM.out.fv _ e); omega
  obtain ⟨DA, hownA, hfA⟩ := HO.out
  have HFA := Lib.hid (hfA who hw)
  have HOA := Lib.hid hownA
  have HFX := Lib.hid hfA
  clear hfA hownA
  go_enter Try.func10, Try.ntmps10
  unfold accV
  go_wp2_with (first | (at_lookup; refine wpList_lookup_own_int _ rfl _ _ 26 rfl 3 3 .i64 law3 Try.underlying26 Try.underlying3 (zero3 _) bm _ DA rfl HOA.out _ _ rfl hkey ?_; intro cc hat hwc; have hcc : cntOf log who = cc := (by rw [HFA.out] at hat; simpa using hat); clear hat; subst hcc; clear hwc) | (at_mapUpdate; refine wpList_mapUpdate_own _ rfl _ _ _ 26 rfl 3 3 law3 Try.underlying26 _ bm log.length DA rfl HOA.out (log_lt hl) _ _ (.int .i64 who) rfl rfl hkey (.lit (.int .i64 (cntOf log who + 1))) [] (by rw [cnt_wrap hl]; exact plainElem_int Try.underlying3 (cnt_wf hl)) ?_; intro w5 hown1 hgrow1; have HG1 := Lib.hid hgrow1; have HW1 := Lib.hid hown1; clear hgrow1 hown1) | (go_quiet (fail)))
  have HM5 : Hid (MemAt w5 base F g bc bm vl cs (log ++ [⟨who, 3, j, old, nw, false⟩]) log) := (HMA.out.nope ((Turn.refl _ _).drewN _)).mapped ⟨who, 3, j, old, nw, false⟩ HFX.out HOA.out HW1.out HG1.out
  have HBS : Hid (base ≤ (w5.drew.alloc (.cells #[.int .i64 3, .int .i64 (j : Int), .string old, .string nw] 31)).heap.size) := Nat.le_trans (Nat.le_of_lt (Nat.lt_of_le_of_lt (HM5.out.lo _ HM5.out.fg) (HM5.out.lt _ HM5.out.fg))) ((Turn.refl F w5).drew.alloc _).size
  have HT5 : Hid (Turn F w w5) := (((Turn.refl F w).alloc _).drewN _).grown HG1.out (fun k hk => .inl (by injection hk with hk; subst hk; exact HM.out.fm))
  have HB5 : Hid (w5.heap[w.heap.size]? = some (.cells #[.int .i64 3, .int .i64 (j : Int), .string old, .string nw] 31 (0, 0))) := blk_grown (blk_drewN BA.out _) HG1.out (by intro e; injection e with e; have := HLT.out _ HM.out.fm; omega)
  have SAT : Hid (∀ W : World, (W.heap[g]? = some (.cells #[.slice (some ⟨bc, 0, none⟩) cs.length cs.length, .map (some bm), vl] 54 (0, 0)) ∧ W.heap[w.heap.size]? = some (.cells #[.int .i64 3, .int .i64 (j : Int), .string old, .string nw] 31 (0, 0))) →
      W.cell? ⟨g, 2, none⟩ = some vl ∧ W.frozen? ⟨g, 2, none⟩ = false ∧ W.cell? ⟨w.heap.size, 0, none⟩ = some (.int .i64 3) ∧ W.cell? ⟨w.heap.size, 1, none⟩ = some (.int .i64 (j : Int)) ∧ W.cell? ⟨w.heap.size, 2, none⟩ = some (.string old) ∧ W.cell? ⟨w.heap.size, 3, none⟩ = some (.string nw)) := by
    rintro W ⟨h1, h2⟩
    exact ⟨by rw [blk_cell h1]; rfl, blk_frozen h1 2, by rw [blk_cell h2]; rfl, by rw [blk_cell h2]; rfl, by rw [blk_cell h2]; rfl, by rw [blk_cell h2]; rfl⟩
  clear d0 d1
  obtain ⟨p0, p1, p2, p3, p4, p5⟩ := SAT.out w5.drew ⟨blk_drew HM5.out.hd, blk_drew HB5.out⟩
  obtain ⟨q0, q1, q2, q3, q4, q5⟩ := SAT.out (w5.alloc (.cells #[.int .i64 3, .int .i64 (j : Int), .string old, .string nw] 31)).drew ⟨blk_alloc (blk_drew HM5.out.hd) _, blk_alloc (blk_drew HB5.out) _⟩
  go_region_law (first | (refine step_append_lies _ rfl (.tmp 45) (.tmp 47) 52 rfl base 31 i31 _ 4 48 Try.underlying52 I31.out.1 I31.out.2.1 I31.out.2.2.1 I31.out.2.2.2 rfl (by omega) vl log.length (log.flatMap accCells) rfl (own_nope HM5.out.row ((Turn.refl _ _).drew.alloc _)) ⟨w5.heap.size, 0, none⟩ 1 1 [.int .i64 3, .int .i64 (j : Int), .string old, .string nw] rfl rfl (news_new w5.drew _ 31) (by intro u hu; simp at hu; rcases hu with rfl | rfl | rfl | rfl <;> rfl) (by omega) (by show log.length + 1 ≤ 9223372036854775807; omega) (by omega) HBS.out (w5.heap.size + 1) (by simp) ?_; intro g1 cap1 w6 hown hgr hat hlt; have HO6 := Lib.hid hown; have HG6 := Lib.hid hgr; have HA6 := Lib.hid hat; have HL6 := Lib.hid hlt; clear hown hgr hat hlt; have HR6 := Lib.hid (And.intro (blk_grown (blk_alloc (blk_drew HM5.out.hd) _) HG6.out HNG.out) (blk_grown (blk_alloc (blk_drew HB5.out) _) HG6.out HNB.out)); obtain ⟨r0, r1, r2, r3, r4, r5⟩ := SAT.out _ HR6.out; clear p0 p1 p2 p3 p4 p5 q0 q1 q2 q3 q4 q5))
  all_goals
    have HMT := Lib.hid (HM5.out.logged (B := w.heap.size) (by first | exact (Turn.refl _ _).drew.alloc _ | exact ((Turn.refl _ _).alloc _).drew) HG6.out ⟨who, 3, j, old, nw, false⟩ HO6.out (HA6.out.imp id (fun e => by omega)) HL6.out HT5.out.size HB0.out)
    have HB7 : Hid ((w6.setCell ⟨g, 2, none⟩ (.slice (some ⟨g1, 0, none⟩) (log.length + 1) cap1)).heap[w.heap.size]? = some (.cells #[.int .i64 3, .int .i64 (j : Int), .string old, .string nw] 31 (0, 0))) := blk_far HR6.out.2 (by show w.heap.size ≠ g; have := HLT.out _ HM.out.fg; omega) _
    clear HR6 HO6 HG6 HA6 HL6 r0 r1 r2 r3 r4 r5
    generalize w6.setCell ⟨g, 2, none⟩ (.slice (some ⟨g1, 0, none⟩) (log.length + 1) cap1) = w7 at *
    have e0 := blk_cell HMT.out.1.hd 0
    have ea := blk_cell HB7.out 0
    have eb := blk_cell HB7.out 1
    have ec := blk_cell HB7.out 2
    have ed := blk_cell HB7.out 3
    have es := blk_cell HMT.out.1.cells j
    have ef := blk_frozen HMT.out.1.cells j
    simp [HJ.out] at e0 ea eb ec ed es
    have ho1 := list_ne ho; go_wp2_with (first | (go_quiet (fail)) | (refine still_tail (id := 10) 9 (by kernel_rfl) (by kernel_rfl) ?_; simp only [List.take_succ_cons, List.take_zero, List.drop_succ_cons, List.drop_zero]; (repeat still_step); refine wpStill_nil ?_))
    go_ret3
    exact ⟨rfl, ⟨_, ⟨bc, bm, _, HMT.out.1.nope (by repeat (first | exact Turn.refl _ _ | apply Turn.drewN | apply Turn.drew))⟩, fun k hk => hk.imp id And.left⟩, by repeat (first | exact HT5.out.trans HMT.out.2 | apply Turn.drewN | apply Turn.drew)⟩

end Go.Proofs.Ytpcfgigmchndjaa
