/- Few, Kind, walked. -/
import Derived.Test.YteggenihjhclkaaOd
set_option maxRecDepth 16000
set_option linter.unusedVariables false
set_option linter.unusedSimpArgs false
namespace Go.Proofs.Yteggenihjhclkaa
open Go.RowKit Go.Maps
theorem results_c {P : Program} {fn : Func} {p : Tmp} {ty : TypeId} (h : fn.results = #[.cell p ty]) (tmps : Array Value) (w : World) (g : Nat) (t : TypeId) (cs : Array Value) (fr : Nat × Nat) (d : TypeDesc)
    (hp : tmps.getD p undef = .pointer (some ⟨g, 0, none⟩)) (hg : w.heap[g]? = some (.cells cs t fr))
    (hu : P.underlying ty = some d) (hd : (match d with | .struct _ | .array _ _ => true | _ => false) = true) (hi : (P.info? ty).map (·.size) = some cs.size) :
    (results fn tmps).run P w = .ok (.agg cs) w := by
  have hp' : tmps[p]?.getD undef = .pointer (some ⟨g, 0, none⟩) := by simpa using hp
  simp [results, h, hp', asAddr, run_loadVar_row w g t ty cs fr d hg hu hd hi]
def few (o : OOp) : OOp :=
  if o.k = 1 then ⟨o.k, o.tk, o.ta, Tx.cut o.ts 45, o.tn, 0, ⟨#[]⟩, ⟨#[]⟩, 0, 0, ⟨#[]⟩, 0⟩
  else if o.k = 2 then ⟨o.k, 0, 0, ⟨#[]⟩, 0, o.lk, Lg.cutP o.ln 14, Lg.cutP o.lt 14, o.la, 0, ⟨#[]⟩, 0⟩
  else if o.k = 3 then ⟨o.k, 0, 0, ⟨#[]⟩, 0, 0, ⟨#[]⟩, ⟨#[]⟩, 0, o.sk, Sk.cutP o.sn 14, o.sN⟩
  else ⟨o.k, 0, 0, ⟨#[]⟩, 0, 0, ⟨#[]⟩, ⟨#[]⟩, 0, 0, ⟨#[]⟩, 0⟩
/-- A whole op goes into a block of its size. -/
theorem blk_put12 {w : World} {g : Nat} {u0 u1 u2 u3 u4 u5 u6 u7 u8 u9 u10 u11 v0 v1 v2 v3 v4 v5 v6 v7 v8 v9 v10 v11 : Value} (h : w.heap[g]? = some (.cells #[u0, u1, u2, u3, u4, u5, u6, u7, u8, u9, u10, u11] 30 (0, 0))) :
    ((((((((((((w.setCell ⟨g, 0, none⟩ v0).setCell ⟨g, 1, none⟩ v1).setCell ⟨g, 2, none⟩ v2).setCell ⟨g, 3, none⟩ v3).setCell ⟨g, 4, none⟩ v4).setCell ⟨g, 5, none⟩ v5).setCell ⟨g, 6, none⟩ v6).setCell ⟨g, 7, none⟩ v7).setCell ⟨g, 8, none⟩ v8).setCell ⟨g, 9, none⟩ v9).setCell ⟨g, 10, none⟩ v10).setCell ⟨g, 11, none⟩ v11).heap[g]? = some (.cells #[v0, v1, v2, v3, v4, v5, v6, v7, v8, v9, v10, v11] 30 (0, 0)) := by
  have h1 := (blk_set (blk_set (blk_set (blk_set (blk_set (blk_set (blk_set (blk_set (blk_set (blk_set (blk_set (blk_set h 0 v0) 1 v1) 2 v2) 3 v3) 4 v4) 5 v5) 6 v6) 7 v7) 8 v8) 9 v9) 10 v10) 11 v11)
  simpa using h1
theorem turn_put12 {S : Nat → Prop} {a w : World} (h : Turn S a w) {g : Nat} (hp : S g ∨ a.heap.size ≤ g) (v0 v1 v2 v3 v4 v5 v6 v7 v8 v9 v10 v11 : Value) :
    Turn S a ((((((((((((w.setCell ⟨g, 0, none⟩ v0).setCell ⟨g, 1, none⟩ v1).setCell ⟨g, 2, none⟩ v2).setCell ⟨g, 3, none⟩ v3).setCell ⟨g, 4, none⟩ v4).setCell ⟨g, 5, none⟩ v5).setCell ⟨g, 6, none⟩ v6).setCell ⟨g, 7, none⟩ v7).setCell ⟨g, 8, none⟩ v8).setCell ⟨g, 9, none⟩ v9).setCell ⟨g, 10, none⟩ v10).setCell ⟨g, 11, none⟩ v11) := (Turn.setCell (Turn.setCell (Turn.setCell (Turn.setCell (Turn.setCell (Turn.setCell (Turn.setCell (Turn.setCell (Turn.setCell (Turn.setCell (Turn.setCell (Turn.setCell h hp _) hp _) hp _) hp _) hp _) hp _) hp _) hp _) hp _) hp _) hp _) hp _)
theorem blk3a (w : World) (o1 o2 o3 : Obj) : (((w.alloc o1).alloc o2).alloc o3).heap[w.heap.size + 1]? = some o2 := by
  have := blk_alloc (blk_new (w.alloc o1) o2) o3
  rw [show (w.alloc o1).heap.size = w.heap.size + 1 by simp] at this
  exact this
set_option maxHeartbeats 8000000 in
theorem few_tx (k tk ta : Int) (ts : ByteArray) (tn lk : Int) (ln lt : ByteArray) (la sk : Int) (sn : ByteArray) (sN : Int) (hk : k = 1) (w : World) :
    Calls Try.prog 8 #[.agg #[.int .i64 k, .int .i64 tk, .int .i64 ta, .string ts, .int .i64 tn, .int .i64 lk, .string ln, .string lt, .int .i64 la, .int .i64 sk, .string sn, .int .i64 sN]] w fun e w' => e = .returned (.agg #[.int .i64 k, .int .i64 tk, .int .i64 ta, .string (Tx.cut ts 45), .int .i64 tn, .int .i64 0, .string ⟨#[]⟩, .string ⟨#[]⟩, .int .i64 0, .int .i64 0, .string ⟨#[]⟩, .int .i64 0]) ∧ Turn Nope w w' := by
  have hk1 : (k == 1) = true := by rw [hk]; rfl
  have hk2 : (k == 2) = false := by rw [hk]; rfl
  have hk3 : (k == 3) = false := by rw [hk]; rfl
  clear hk
  go_enter Try.func8, Try.ntmps8
  go_wp2_with fail
  have T0 : Hid (Turn Nope w (((w.alloc (.cells #[.int .i64 k, .int .i64 tk, .int .i64 ta, .string ts, .int .i64 tn, .int .i64 lk, .string ln, .string lt, .int .i64 la, .int .i64 sk, .string sn, .int .i64 sN] 30)).alloc (.cells #[.int .i64 0, .int .i64 0, .int .i64 0, .string ⟨#[]⟩, .int .i64 0, .int .i64 0, .string ⟨#[]⟩, .string ⟨#[]⟩, .int .i64 0, .int .i64 0, .string ⟨#[]⟩, .int .i64 0] 30)).alloc (.cells #[.int .i64 k, .int .i64 0, .int .i64 0, .string ⟨#[]⟩, .int .i64 0, .int .i64 0, .string ⟨#[]⟩, .string ⟨#[]⟩, .int .i64 0, .int .i64 0, .string ⟨#[]⟩, .int .i64 0] 30))) := (((Turn.refl _ _).alloc _).alloc _).alloc _
  have B2 := Lib.hid (blk3 w (.cells #[.int .i64 k, .int .i64 tk, .int .i64 ta, .string ts, .int .i64 tn, .int .i64 lk, .string ln, .string lt, .int .i64 la, .int .i64 sk, .string sn, .int .i64 sN] 30) (.cells #[.int .i64 0, .int .i64 0, .int .i64 0, .string ⟨#[]⟩, .int .i64 0, .int .i64 0, .string ⟨#[]⟩, .string ⟨#[]⟩, .int .i64 0, .int .i64 0, .string ⟨#[]⟩, .int .i64 0] 30) (.cells #[.int .i64 k, .int .i64 0, .int .i64 0, .string ⟨#[]⟩, .int .i64 0, .int .i64 0, .string ⟨#[]⟩, .string ⟨#[]⟩, .int .i64 0, .int .i64 0, .string ⟨#[]⟩, .int .i64 0] 30))
  have B1 := Lib.hid (blk3a w (.cells #[.int .i64 k, .int .i64 tk, .int .i64 ta, .string ts, .int .i64 tn, .int .i64 lk, .string ln, .string lt, .int .i64 la, .int .i64 sk, .string sn, .int .i64 sN] 30) (.cells #[.int .i64 0, .int .i64 0, .int .i64 0, .string ⟨#[]⟩, .int .i64 0, .int .i64 0, .string ⟨#[]⟩, .string ⟨#[]⟩, .int .i64 0, .int .i64 0, .string ⟨#[]⟩, .int .i64 0] 30) (.cells #[.int .i64 k, .int .i64 0, .int .i64 0, .string ⟨#[]⟩, .int .i64 0, .int .i64 0, .string ⟨#[]⟩, .string ⟨#[]⟩, .int .i64 0, .int .i64 0, .string ⟨#[]⟩, .int .i64 0] 30))
  generalize ((w.alloc (.cells #[.int .i64 k, .int .i64 tk, .int .i64 ta, .string ts, .int .i64 tn, .int .i64 lk, .string ln, .string lt, .int .i64 la, .int .i64 sk, .string sn, .int .i64 sN] 30)).alloc (.cells #[.int .i64 0, .int .i64 0, .int .i64 0, .string ⟨#[]⟩, .int .i64 0, .int .i64 0, .string ⟨#[]⟩, .string ⟨#[]⟩, .int .i64 0, .int .i64 0, .string ⟨#[]⟩, .int .i64 0] 30)).alloc (.cells #[.int .i64 k, .int .i64 0, .int .i64 0, .string ⟨#[]⟩, .int .i64 0, .int .i64 0, .string ⟨#[]⟩, .string ⟨#[]⟩, .int .i64 0, .int .i64 0, .string ⟨#[]⟩, .int .i64 0] 30) = w1 at T0 B1 B2 ⊢
  have HG : Hid (w.heap.size ≤ w.heap.size + 1 ∧ w.heap.size ≤ w.heap.size + 1 + 1 ∧ w.heap.size + 1 ≠ w.heap.size + 1 + 1) := ⟨by omega, by omega, by omega⟩
  have hz : w.heap.size + 1 ≠ w.heap.size := by omega
  generalize hg1 : w.heap.size + 1 = g1 at B1 B2 HG ⊢
  generalize hg2 : g1 + 1 = g2 at B2 HG ⊢
  clear hz
  refine (Tx.few_any tk ta ts tn w1).mono ?_
  rintro e w2 ⟨rfl, ht⟩
  have B2' := Lib.hid (ht.blk B2.out fun h => h)
  have B1' := Lib.hid (ht.blk B1.out fun h => h)
  have T2 := Lib.hid (T0.out.trans ht)
  clear ht B1 B2 T0
  have c1 := blk_cell B2'.out 1
  have c2 := blk_cell B2'.out 2
  have c3 := blk_cell B2'.out 3
  have c4 := blk_cell B2'.out 4
  simp only [List.getElem?_toArray, List.getElem?_cons_zero, List.getElem?_cons_succ] at c1 c2 c3 c4
  have f1 := blk_frozen B2'.out 1
  have f2 := blk_frozen B2'.out 2
  have f3 := blk_frozen B2'.out 3
  have f4 := blk_frozen B2'.out 4
  go_upto_region 9 with fail
  clear c1 f1 c2 f2 c3 f3 c4 f4
  have B3 : Hid (((((w2.setCell ⟨g2, 1, none⟩ (.int .i64 tk)).setCell ⟨g2, 2, none⟩ (.int .i64 ta)).setCell ⟨g2, 3, none⟩ (.string (Tx.cut ts 45))).setCell ⟨g2, 4, none⟩ (.int .i64 tn)).heap[g2]? = some (.cells #[.int .i64 k, .int .i64 tk, .int .i64 ta, .string (Tx.cut ts 45), .int .i64 tn, .int .i64 0, .string ⟨#[]⟩, .string ⟨#[]⟩, .int .i64 0, .int .i64 0, .string ⟨#[]⟩, .int .i64 0] 30 (0, 0))) := by
    have h1 := (blk_set (blk_set (blk_set (blk_set B2'.out 1 (.int .i64 tk)) 2 (.int .i64 ta)) 3 (.string (Tx.cut ts 45))) 4 (.int .i64 tn))
    show _ = _
    simpa using h1
  have B4 : Hid (((((w2.setCell ⟨g2, 1, none⟩ (.int .i64 tk)).setCell ⟨g2, 2, none⟩ (.int .i64 ta)).setCell ⟨g2, 3, none⟩ (.string (Tx.cut ts 45))).setCell ⟨g2, 4, none⟩ (.int .i64 tn)).heap[g1]? = some (.cells #[.int .i64 0, .int .i64 0, .int .i64 0, .string ⟨#[]⟩, .int .i64 0, .int .i64 0, .string ⟨#[]⟩, .string ⟨#[]⟩, .int .i64 0, .int .i64 0, .string ⟨#[]⟩, .int .i64 0] 30 (0, 0))) := (blk_far (blk_far (blk_far (blk_far B1'.out HG.out.2.2 _) HG.out.2.2 _) HG.out.2.2 _) HG.out.2.2 _)
  have T3 : Hid (Turn Nope w ((((w2.setCell ⟨g2, 1, none⟩ (.int .i64 tk)).setCell ⟨g2, 2, none⟩ (.int .i64 ta)).setCell ⟨g2, 3, none⟩ (.string (Tx.cut ts 45))).setCell ⟨g2, 4, none⟩ (.int .i64 tn))) := (Turn.setCell (Turn.setCell (Turn.setCell (Turn.setCell T2.out (.inr HG.out.2.1) _) (.inr HG.out.2.1) _) (.inr HG.out.2.1) _) (.inr HG.out.2.1) _)
  generalize ((((w2.setCell ⟨g2, 1, none⟩ (.int .i64 tk)).setCell ⟨g2, 2, none⟩ (.int .i64 ta)).setCell ⟨g2, 3, none⟩ (.string (Tx.cut ts 45))).setCell ⟨g2, 4, none⟩ (.int .i64 tn)) = w3 at B3 B4 T3 ⊢
  clear B1' B2' T2
  have c0 := blk_cell B3.out 0
  have c1 := blk_cell B3.out 1
  have c2 := blk_cell B3.out 2
  have c3 := blk_cell B3.out 3
  have c4 := blk_cell B3.out 4
  have c5 := blk_cell B3.out 5
  have c6 := blk_cell B3.out 6
  have c7 := blk_cell B3.out 7
  have c8 := blk_cell B3.out 8
  have c9 := blk_cell B3.out 9
  have c10 := blk_cell B3.out 10
  have c11 := blk_cell B3.out 11
  simp only [List.getElem?_toArray, List.getElem?_cons_zero, List.getElem?_cons_succ] at c0 c1 c2 c3 c4 c5 c6 c7 c8 c9 c10 c11
  have d0 := blk_cell B4.out 0
  have d1 := blk_cell B4.out 1
  have d2 := blk_cell B4.out 2
  have d3 := blk_cell B4.out 3
  have d4 := blk_cell B4.out 4
  have d5 := blk_cell B4.out 5
  have d6 := blk_cell B4.out 6
  have d7 := blk_cell B4.out 7
  have d8 := blk_cell B4.out 8
  have d9 := blk_cell B4.out 9
  have d10 := blk_cell B4.out 10
  have d11 := blk_cell B4.out 11
  simp only [List.getElem?_toArray, List.getElem?_cons_zero, List.getElem?_cons_succ] at d0 d1 d2 d3 d4 d5 d6 d7 d8 d9 d10 d11
  have f0 := blk_frozen B4.out 0
  have f1 := blk_frozen B4.out 1
  have f2 := blk_frozen B4.out 2
  have f3 := blk_frozen B4.out 3
  have f4 := blk_frozen B4.out 4
  have f5 := blk_frozen B4.out 5
  have f6 := blk_frozen B4.out 6
  have f7 := blk_frozen B4.out 7
  have f8 := blk_frozen B4.out 8
  have f9 := blk_frozen B4.out 9
  have f10 := blk_frozen B4.out 10
  have f11 := blk_frozen B4.out 11
  go_wp2_with fail
  exact bodyPost_ret (results_c rfl _ _ g1 30 #[.int .i64 k, .int .i64 tk, .int .i64 ta, .string (Tx.cut ts 45), .int .i64 tn, .int .i64 0, .string ⟨#[]⟩, .string ⟨#[]⟩, .int .i64 0, .int .i64 0, .string ⟨#[]⟩, .int .i64 0] (0, 0) _ rfl (blk_put12 B4.out) Try.underlying30 rfl (by kernel_rfl)) rfl ⟨rfl, turn_put12 T3.out (.inr HG.out.1) _ _ _ _ _ _ _ _ _ _ _ _⟩
set_option maxHeartbeats 8000000 in
theorem few_lg (k tk ta : Int) (ts : ByteArray) (tn lk : Int) (ln lt : ByteArray) (la sk : Int) (sn : ByteArray) (sN : Int) (hk : k = 2) (w : World) :
    Calls Try.prog 8 #[.agg #[.int .i64 k, .int .i64 tk, .int .i64 ta, .string ts, .int .i64 tn, .int .i64 lk, .string ln, .string lt, .int .i64 la, .int .i64 sk, .string sn, .int .i64 sN]] w fun e w' => e = .returned (.agg #[.int .i64 k, .int .i64 0, .int .i64 0, .string ⟨#[]⟩, .int .i64 0, .int .i64 lk, .string (Lg.cutP ln 14), .string (Lg.cutP lt 14), .int .i64 la, .int .i64 0, .string ⟨#[]⟩, .int .i64 0]) ∧ Turn Nope w w' := by
  have hk1 : (k == 1) = false := by rw [hk]; rfl
  have hk2 : (k == 2) = true := by rw [hk]; rfl
  have hk3 : (k == 3) = false := by rw [hk]; rfl
  clear hk
  go_enter Try.func8, Try.ntmps8
  go_wp2_with fail
  have T0 : Hid (Turn Nope w (((w.alloc (.cells #[.int .i64 k, .int .i64 tk, .int .i64 ta, .string ts, .int .i64 tn, .int .i64 lk, .string ln, .string lt, .int .i64 la, .int .i64 sk, .string sn, .int .i64 sN] 30)).alloc (.cells #[.int .i64 0, .int .i64 0, .int .i64 0, .string ⟨#[]⟩, .int .i64 0, .int .i64 0, .string ⟨#[]⟩, .string ⟨#[]⟩, .int .i64 0, .int .i64 0, .string ⟨#[]⟩, .int .i64 0] 30)).alloc (.cells #[.int .i64 k, .int .i64 0, .int .i64 0, .string ⟨#[]⟩, .int .i64 0, .int .i64 0, .string ⟨#[]⟩, .string ⟨#[]⟩, .int .i64 0, .int .i64 0, .string ⟨#[]⟩, .int .i64 0] 30))) := (((Turn.refl _ _).alloc _).alloc _).alloc _
  have B2 := Lib.hid (blk3 w (.cells #[.int .i64 k, .int .i64 tk, .int .i64 ta, .string ts, .int .i64 tn, .int .i64 lk, .string ln, .string lt, .int .i64 la, .int .i64 sk, .string sn, .int .i64 sN] 30) (.cells #[.int .i64 0, .int .i64 0, .int .i64 0, .string ⟨#[]⟩, .int .i64 0, .int .i64 0, .string ⟨#[]⟩, .string ⟨#[]⟩, .int .i64 0, .int .i64 0, .string ⟨#[]⟩, .int .i64 0] 30) (.cells #[.int .i64 k, .int .i64 0, .int .i64 0, .string ⟨#[]⟩, .int .i64 0, .int .i64 0, .string ⟨#[]⟩, .string ⟨#[]⟩, .int .i64 0, .int .i64 0, .string ⟨#[]⟩, .int .i64 0] 30))
  have B1 := Lib.hid (blk3a w (.cells #[.int .i64 k, .int .i64 tk, .int .i64 ta, .string ts, .int .i64 tn, .int .i64 lk, .string ln, .string lt, .int .i64 la, .int .i64 sk, .string sn, .int .i64 sN] 30) (.cells #[.int .i64 0, .int .i64 0, .int .i64 0, .string ⟨#[]⟩, .int .i64 0, .int .i64 0, .string ⟨#[]⟩, .string ⟨#[]⟩, .int .i64 0, .int .i64 0, .string ⟨#[]⟩, .int .i64 0] 30) (.cells #[.int .i64 k, .int .i64 0, .int .i64 0, .string ⟨#[]⟩, .int .i64 0, .int .i64 0, .string ⟨#[]⟩, .string ⟨#[]⟩, .int .i64 0, .int .i64 0, .string ⟨#[]⟩, .int .i64 0] 30))
  generalize ((w.alloc (.cells #[.int .i64 k, .int .i64 tk, .int .i64 ta, .string ts, .int .i64 tn, .int .i64 lk, .string ln, .string lt, .int .i64 la, .int .i64 sk, .string sn, .int .i64 sN] 30)).alloc (.cells #[.int .i64 0, .int .i64 0, .int .i64 0, .string ⟨#[]⟩, .int .i64 0, .int .i64 0, .string ⟨#[]⟩, .string ⟨#[]⟩, .int .i64 0, .int .i64 0, .string ⟨#[]⟩, .int .i64 0] 30)).alloc (.cells #[.int .i64 k, .int .i64 0, .int .i64 0, .string ⟨#[]⟩, .int .i64 0, .int .i64 0, .string ⟨#[]⟩, .string ⟨#[]⟩, .int .i64 0, .int .i64 0, .string ⟨#[]⟩, .int .i64 0] 30) = w1 at T0 B1 B2 ⊢
  have HG : Hid (w.heap.size ≤ w.heap.size + 1 ∧ w.heap.size ≤ w.heap.size + 1 + 1 ∧ w.heap.size + 1 ≠ w.heap.size + 1 + 1) := ⟨by omega, by omega, by omega⟩
  have hz : w.heap.size + 1 ≠ w.heap.size := by omega
  generalize hg1 : w.heap.size + 1 = g1 at B1 B2 HG ⊢
  generalize hg2 : g1 + 1 = g2 at B2 HG ⊢
  clear hz
  refine (Lg.few_any lk ln lt la w1).mono ?_
  rintro e w2 ⟨rfl, ht⟩
  have B2' := Lib.hid (ht.blk B2.out fun h => h)
  have B1' := Lib.hid (ht.blk B1.out fun h => h)
  have T2 := Lib.hid (T0.out.trans ht)
  clear ht B1 B2 T0
  have c5 := blk_cell B2'.out 5
  have c6 := blk_cell B2'.out 6
  have c7 := blk_cell B2'.out 7
  have c8 := blk_cell B2'.out 8
  simp only [List.getElem?_toArray, List.getElem?_cons_zero, List.getElem?_cons_succ] at c5 c6 c7 c8
  have f5 := blk_frozen B2'.out 5
  have f6 := blk_frozen B2'.out 6
  have f7 := blk_frozen B2'.out 7
  have f8 := blk_frozen B2'.out 8
  go_upto_region 9 with fail
  clear c5 f5 c6 f6 c7 f7 c8 f8
  have B3 : Hid (((((w2.setCell ⟨g2, 5, none⟩ (.int .i64 lk)).setCell ⟨g2, 6, none⟩ (.string (Lg.cutP ln 14))).setCell ⟨g2, 7, none⟩ (.string (Lg.cutP lt 14))).setCell ⟨g2, 8, none⟩ (.int .i64 la)).heap[g2]? = some (.cells #[.int .i64 k, .int .i64 0, .int .i64 0, .string ⟨#[]⟩, .int .i64 0, .int .i64 lk, .string (Lg.cutP ln 14), .string (Lg.cutP lt 14), .int .i64 la, .int .i64 0, .string ⟨#[]⟩, .int .i64 0] 30 (0, 0))) := by
    have h1 := (blk_set (blk_set (blk_set (blk_set B2'.out 5 (.int .i64 lk)) 6 (.string (Lg.cutP ln 14))) 7 (.string (Lg.cutP lt 14))) 8 (.int .i64 la))
    show _ = _
    simpa using h1
  have B4 : Hid (((((w2.setCell ⟨g2, 5, none⟩ (.int .i64 lk)).setCell ⟨g2, 6, none⟩ (.string (Lg.cutP ln 14))).setCell ⟨g2, 7, none⟩ (.string (Lg.cutP lt 14))).setCell ⟨g2, 8, none⟩ (.int .i64 la)).heap[g1]? = some (.cells #[.int .i64 0, .int .i64 0, .int .i64 0, .string ⟨#[]⟩, .int .i64 0, .int .i64 0, .string ⟨#[]⟩, .string ⟨#[]⟩, .int .i64 0, .int .i64 0, .string ⟨#[]⟩, .int .i64 0] 30 (0, 0))) := (blk_far (blk_far (blk_far (blk_far B1'.out HG.out.2.2 _) HG.out.2.2 _) HG.out.2.2 _) HG.out.2.2 _)
  have T3 : Hid (Turn Nope w ((((w2.setCell ⟨g2, 5, none⟩ (.int .i64 lk)).setCell ⟨g2, 6, none⟩ (.string (Lg.cutP ln 14))).setCell ⟨g2, 7, none⟩ (.string (Lg.cutP lt 14))).setCell ⟨g2, 8, none⟩ (.int .i64 la))) := (Turn.setCell (Turn.setCell (Turn.setCell (Turn.setCell T2.out (.inr HG.out.2.1) _) (.inr HG.out.2.1) _) (.inr HG.out.2.1) _) (.inr HG.out.2.1) _)
  generalize ((((w2.setCell ⟨g2, 5, none⟩ (.int .i64 lk)).setCell ⟨g2, 6, none⟩ (.string (Lg.cutP ln 14))).setCell ⟨g2, 7, none⟩ (.string (Lg.cutP lt 14))).setCell ⟨g2, 8, none⟩ (.int .i64 la)) = w3 at B3 B4 T3 ⊢
  clear B1' B2' T2
  have c0 := blk_cell B3.out 0
  have c1 := blk_cell B3.out 1
  have c2 := blk_cell B3.out 2
  have c3 := blk_cell B3.out 3
  have c4 := blk_cell B3.out 4
  have c5 := blk_cell B3.out 5
  have c6 := blk_cell B3.out 6
  have c7 := blk_cell B3.out 7
  have c8 := blk_cell B3.out 8
  have c9 := blk_cell B3.out 9
  have c10 := blk_cell B3.out 10
  have c11 := blk_cell B3.out 11
  simp only [List.getElem?_toArray, List.getElem?_cons_zero, List.getElem?_cons_succ] at c0 c1 c2 c3 c4 c5 c6 c7 c8 c9 c10 c11
  have d0 := blk_cell B4.out 0
  have d1 := blk_cell B4.out 1
  have d2 := blk_cell B4.out 2
  have d3 := blk_cell B4.out 3
  have d4 := blk_cell B4.out 4
  have d5 := blk_cell B4.out 5
  have d6 := blk_cell B4.out 6
  have d7 := blk_cell B4.out 7
  have d8 := blk_cell B4.out 8
  have d9 := blk_cell B4.out 9
  have d10 := blk_cell B4.out 10
  have d11 := blk_cell B4.out 11
  simp only [List.getElem?_toArray, List.getElem?_cons_zero, List.getElem?_cons_succ] at d0 d1 d2 d3 d4 d5 d6 d7 d8 d9 d10 d11
  have f0 := blk_frozen B4.out 0
  have f1 := blk_frozen B4.out 1
  have f2 := blk_frozen B4.out 2
  have f3 := blk_frozen B4.out 3
  have f4 := blk_frozen B4.out 4
  have f5 := blk_frozen B4.out 5
  have f6 := blk_frozen B4.out 6
  have f7 := blk_frozen B4.out 7
  have f8 := blk_frozen B4.out 8
  have f9 := blk_frozen B4.out 9
  have f10 := blk_frozen B4.out 10
  have f11 := blk_frozen B4.out 11
  go_wp2_with fail
  exact bodyPost_ret (results_c rfl _ _ g1 30 #[.int .i64 k, .int .i64 0, .int .i64 0, .string ⟨#[]⟩, .int .i64 0, .int .i64 lk, .string (Lg.cutP ln 14), .string (Lg.cutP lt 14), .int .i64 la, .int .i64 0, .string ⟨#[]⟩, .int .i64 0] (0, 0) _ rfl (blk_put12 B4.out) Try.underlying30 rfl (by kernel_rfl)) rfl ⟨rfl, turn_put12 T3.out (.inr HG.out.1) _ _ _ _ _ _ _ _ _ _ _ _⟩
set_option maxHeartbeats 8000000 in
theorem few_sk (k tk ta : Int) (ts : ByteArray) (tn lk : Int) (ln lt : ByteArray) (la sk : Int) (sn : ByteArray) (sN : Int) (hk : k = 3) (w : World) :
    Calls Try.prog 8 #[.agg #[.int .i64 k, .int .i64 tk, .int .i64 ta, .string ts, .int .i64 tn, .int .i64 lk, .string ln, .string lt, .int .i64 la, .int .i64 sk, .string sn, .int .i64 sN]] w fun e w' => e = .returned (.agg #[.int .i64 k, .int .i64 0, .int .i64 0, .string ⟨#[]⟩, .int .i64 0, .int .i64 0, .string ⟨#[]⟩, .string ⟨#[]⟩, .int .i64 0, .int .i64 sk, .string (Sk.cutP sn 14), .int .i64 sN]) ∧ Turn Nope w w' := by
  have hk1 : (k == 1) = false := by rw [hk]; rfl
  have hk2 : (k == 2) = false := by rw [hk]; rfl
  have hk3 : (k == 3) = true := by rw [hk]; rfl
  clear hk
  go_enter Try.func8, Try.ntmps8
  go_wp2_with fail
  have T0 : Hid (Turn Nope w (((w.alloc (.cells #[.int .i64 k, .int .i64 tk, .int .i64 ta, .string ts, .int .i64 tn, .int .i64 lk, .string ln, .string lt, .int .i64 la, .int .i64 sk, .string sn, .int .i64 sN] 30)).alloc (.cells #[.int .i64 0, .int .i64 0, .int .i64 0, .string ⟨#[]⟩, .int .i64 0, .int .i64 0, .string ⟨#[]⟩, .string ⟨#[]⟩, .int .i64 0, .int .i64 0, .string ⟨#[]⟩, .int .i64 0] 30)).alloc (.cells #[.int .i64 k, .int .i64 0, .int .i64 0, .string ⟨#[]⟩, .int .i64 0, .int .i64 0, .string ⟨#[]⟩, .string ⟨#[]⟩, .int .i64 0, .int .i64 0, .string ⟨#[]⟩, .int .i64 0] 30))) := (((Turn.refl _ _).alloc _).alloc _).alloc _
  have B2 := Lib.hid (blk3 w (.cells #[.int .i64 k, .int .i64 tk, .int .i64 ta, .string ts, .int .i64 tn, .int .i64 lk, .string ln, .string lt, .int .i64 la, .int .i64 sk, .string sn, .int .i64 sN] 30) (.cells #[.int .i64 0, .int .i64 0, .int .i64 0, .string ⟨#[]⟩, .int .i64 0, .int .i64 0, .string ⟨#[]⟩, .string ⟨#[]⟩, .int .i64 0, .int .i64 0, .string ⟨#[]⟩, .int .i64 0] 30) (.cells #[.int .i64 k, .int .i64 0, .int .i64 0, .string ⟨#[]⟩, .int .i64 0, .int .i64 0, .string ⟨#[]⟩, .string ⟨#[]⟩, .int .i64 0, .int .i64 0, .string ⟨#[]⟩, .int .i64 0] 30))
  have B1 := Lib.hid (blk3a w (.cells #[.int .i64 k, .int .i64 tk, .int .i64 ta, .string ts, .int .i64 tn, .int .i64 lk, .string ln, .string lt, .int .i64 la, .int .i64 sk, .string sn, .int .i64 sN] 30) (.cells #[.int .i64 0, .int .i64 0, .int .i64 0, .string ⟨#[]⟩, .int .i64 0, .int .i64 0, .string ⟨#[]⟩, .string ⟨#[]⟩, .int .i64 0, .int .i64 0, .string ⟨#[]⟩, .int .i64 0] 30) (.cells #[.int .i64 k, .int .i64 0, .int .i64 0, .string ⟨#[]⟩, .int .i64 0, .int .i64 0, .string ⟨#[]⟩, .string ⟨#[]⟩, .int .i64 0, .int .i64 0, .string ⟨#[]⟩, .int .i64 0] 30))
  generalize ((w.alloc (.cells #[.int .i64 k, .int .i64 tk, .int .i64 ta, .string ts, .int .i64 tn, .int .i64 lk, .string ln, .string lt, .int .i64 la, .int .i64 sk, .string sn, .int .i64 sN] 30)).alloc (.cells #[.int .i64 0, .int .i64 0, .int .i64 0, .string ⟨#[]⟩, .int .i64 0, .int .i64 0, .string ⟨#[]⟩, .string ⟨#[]⟩, .int .i64 0, .int .i64 0, .string ⟨#[]⟩, .int .i64 0] 30)).alloc (.cells #[.int .i64 k, .int .i64 0, .int .i64 0, .string ⟨#[]⟩, .int .i64 0, .int .i64 0, .string ⟨#[]⟩, .string ⟨#[]⟩, .int .i64 0, .int .i64 0, .string ⟨#[]⟩, .int .i64 0] 30) = w1 at T0 B1 B2 ⊢
  have HG : Hid (w.heap.size ≤ w.heap.size + 1 ∧ w.heap.size ≤ w.heap.size + 1 + 1 ∧ w.heap.size + 1 ≠ w.heap.size + 1 + 1) := ⟨by omega, by omega, by omega⟩
  have hz : w.heap.size + 1 ≠ w.heap.size := by omega
  generalize hg1 : w.heap.size + 1 = g1 at B1 B2 HG ⊢
  generalize hg2 : g1 + 1 = g2 at B2 HG ⊢
  clear hz
  refine (Sk.few_any sk sn sN w1).mono ?_
  rintro e w2 ⟨rfl, ht⟩
  have B2' := Lib.hid (ht.blk B2.out fun h => h)
  have B1' := Lib.hid (ht.blk B1.out fun h => h)
  have T2 := Lib.hid (T0.out.trans ht)
  clear ht B1 B2 T0
  have c9 := blk_cell B2'.out 9
  have c10 := blk_cell B2'.out 10
  have c11 := blk_cell B2'.out 11
  simp only [List.getElem?_toArray, List.getElem?_cons_zero, List.getElem?_cons_succ] at c9 c10 c11
  have f9 := blk_frozen B2'.out 9
  have f10 := blk_frozen B2'.out 10
  have f11 := blk_frozen B2'.out 11
  go_upto_region 9 with fail
  clear c9 f9 c10 f10 c11 f11
  have B3 : Hid ((((w2.setCell ⟨g2, 9, none⟩ (.int .i64 sk)).setCell ⟨g2, 10, none⟩ (.string (Sk.cutP sn 14))).setCell ⟨g2, 11, none⟩ (.int .i64 sN)).heap[g2]? = some (.cells #[.int .i64 k, .int .i64 0, .int .i64 0, .string ⟨#[]⟩, .int .i64 0, .int .i64 0, .string ⟨#[]⟩, .string ⟨#[]⟩, .int .i64 0, .int .i64 sk, .string (Sk.cutP sn 14), .int .i64 sN] 30 (0, 0))) := by
    have h1 := (blk_set (blk_set (blk_set B2'.out 9 (.int .i64 sk)) 10 (.string (Sk.cutP sn 14))) 11 (.int .i64 sN))
    show _ = _
    simpa using h1
  have B4 : Hid ((((w2.setCell ⟨g2, 9, none⟩ (.int .i64 sk)).setCell ⟨g2, 10, none⟩ (.string (Sk.cutP sn 14))).setCell ⟨g2, 11, none⟩ (.int .i64 sN)).heap[g1]? = some (.cells #[.int .i64 0, .int .i64 0, .int .i64 0, .string ⟨#[]⟩, .int .i64 0, .int .i64 0, .string ⟨#[]⟩, .string ⟨#[]⟩, .int .i64 0, .int .i64 0, .string ⟨#[]⟩, .int .i64 0] 30 (0, 0))) := (blk_far (blk_far (blk_far B1'.out HG.out.2.2 _) HG.out.2.2 _) HG.out.2.2 _)
  have T3 : Hid (Turn Nope w (((w2.setCell ⟨g2, 9, none⟩ (.int .i64 sk)).setCell ⟨g2, 10, none⟩ (.string (Sk.cutP sn 14))).setCell ⟨g2, 11, none⟩ (.int .i64 sN))) := (Turn.setCell (Turn.setCell (Turn.setCell T2.out (.inr HG.out.2.1) _) (.inr HG.out.2.1) _) (.inr HG.out.2.1) _)
  generalize (((w2.setCell ⟨g2, 9, none⟩ (.int .i64 sk)).setCell ⟨g2, 10, none⟩ (.string (Sk.cutP sn 14))).setCell ⟨g2, 11, none⟩ (.int .i64 sN)) = w3 at B3 B4 T3 ⊢
  clear B1' B2' T2
  have c0 := blk_cell B3.out 0
  have c1 := blk_cell B3.out 1
  have c2 := blk_cell B3.out 2
  have c3 := blk_cell B3.out 3
  have c4 := blk_cell B3.out 4
  have c5 := blk_cell B3.out 5
  have c6 := blk_cell B3.out 6
  have c7 := blk_cell B3.out 7
  have c8 := blk_cell B3.out 8
  have c9 := blk_cell B3.out 9
  have c10 := blk_cell B3.out 10
  have c11 := blk_cell B3.out 11
  simp only [List.getElem?_toArray, List.getElem?_cons_zero, List.getElem?_cons_succ] at c0 c1 c2 c3 c4 c5 c6 c7 c8 c9 c10 c11
  have d0 := blk_cell B4.out 0
  have d1 := blk_cell B4.out 1
  have d2 := blk_cell B4.out 2
  have d3 := blk_cell B4.out 3
  have d4 := blk_cell B4.out 4
  have d5 := blk_cell B4.out 5
  have d6 := blk_cell B4.out 6
  have d7 := blk_cell B4.out 7
  have d8 := blk_cell B4.out 8
  have d9 := blk_cell B4.out 9
  have d10 := blk_cell B4.out 10
  have d11 := blk_cell B4.out 11
  simp only [List.getElem?_toArray, List.getElem?_cons_zero, List.getElem?_cons_succ] at d0 d1 d2 d3 d4 d5 d6 d7 d8 d9 d10 d11
  have f0 := blk_frozen B4.out 0
  have f1 := blk_frozen B4.out 1
  have f2 := blk_frozen B4.out 2
  have f3 := blk_frozen B4.out 3
  have f4 := blk_frozen B4.out 4
  have f5 := blk_frozen B4.out 5
  have f6 := blk_frozen B4.out 6
  have f7 := blk_frozen B4.out 7
  have f8 := blk_frozen B4.out 8
  have f9 := blk_frozen B4.out 9
  have f10 := blk_frozen B4.out 10
  have f11 := blk_frozen B4.out 11
  go_wp2_with fail
  exact bodyPost_ret (results_c rfl _ _ g1 30 #[.int .i64 k, .int .i64 0, .int .i64 0, .string ⟨#[]⟩, .int .i64 0, .int .i64 0, .string ⟨#[]⟩, .string ⟨#[]⟩, .int .i64 0, .int .i64 sk, .string (Sk.cutP sn 14), .int .i64 sN] (0, 0) _ rfl (blk_put12 B4.out) Try.underlying30 rfl (by kernel_rfl)) rfl ⟨rfl, turn_put12 T3.out (.inr HG.out.1) _ _ _ _ _ _ _ _ _ _ _ _⟩
set_option maxHeartbeats 8000000 in
theorem few_no (k tk ta : Int) (ts : ByteArray) (tn lk : Int) (ln lt : ByteArray) (la sk : Int) (sn : ByteArray) (sN : Int) (hn1 : k ≠ 1) (hn2 : k ≠ 2) (hn3 : k ≠ 3) (w : World) :
    Calls Try.prog 8 #[.agg #[.int .i64 k, .int .i64 tk, .int .i64 ta, .string ts, .int .i64 tn, .int .i64 lk, .string ln, .string lt, .int .i64 la, .int .i64 sk, .string sn, .int .i64 sN]] w fun e w' => e = .returned (.agg #[.int .i64 k, .int .i64 0, .int .i64 0, .string ⟨#[]⟩, .int .i64 0, .int .i64 0, .string ⟨#[]⟩, .string ⟨#[]⟩, .int .i64 0, .int .i64 0, .string ⟨#[]⟩, .int .i64 0]) ∧ Turn Nope w w' := by
  have hk1 : (k == 1) = false := by simpa using hn1
  have hk2 : (k == 2) = false := by simpa using hn2
  have hk3 : (k == 3) = false := by simpa using hn3
  clear hn1 hn2 hn3
  go_enter Try.func8, Try.ntmps8
  go_wp2_with fail
  exact bodyPost_ret (v := .agg #[.int .i64 k, .int .i64 0, .int .i64 0, .string ⟨#[]⟩, .int .i64 0, .int .i64 0, .string ⟨#[]⟩, .string ⟨#[]⟩, .int .i64 0, .int .i64 0, .string ⟨#[]⟩, .int .i64 0]) (by simp [results, Try.results8, go_sem]) rfl ⟨rfl, by repeat (first | exact Turn.refl _ _ | apply Turn.alloc)⟩
theorem few_any (o : OOp) (w : World) : Calls Try.prog 8 #[.agg (opC o)] w fun e w' => e = .returned (.agg (opC (few o))) ∧ Turn Nope w w' := by
  obtain ⟨k, tk, ta, ts, tn, lk, ln, lt, la, sk, sn, sN⟩ := o
  by_cases h1 : k = 1
  · have e : few ⟨k, tk, ta, ts, tn, lk, ln, lt, la, sk, sn, sN⟩ = ⟨k, tk, ta, Tx.cut ts 45, tn, 0, ⟨#[]⟩, ⟨#[]⟩, 0, 0, ⟨#[]⟩, 0⟩ := by unfold few; rw [if_pos h1]
    rw [e]
    exact few_tx k tk ta ts tn lk ln lt la sk sn sN h1 w
  · by_cases h2 : k = 2
    · have e : few ⟨k, tk, ta, ts, tn, lk, ln, lt, la, sk, sn, sN⟩ = ⟨k, 0, 0, ⟨#[]⟩, 0, lk, Lg.cutP ln 14, Lg.cutP lt 14, la, 0, ⟨#[]⟩, 0⟩ := by unfold few; rw [if_neg h1, if_pos h2]
      rw [e]
      exact few_lg k tk ta ts tn lk ln lt la sk sn sN h2 w
    · by_cases h3 : k = 3
      · have e : few ⟨k, tk, ta, ts, tn, lk, ln, lt, la, sk, sn, sN⟩ = ⟨k, 0, 0, ⟨#[]⟩, 0, 0, ⟨#[]⟩, ⟨#[]⟩, 0, sk, Sk.cutP sn 14, sN⟩ := by unfold few; rw [if_neg h1, if_neg h2, if_pos h3]
        rw [e]
        exact few_sk k tk ta ts tn lk ln lt la sk sn sN h3 w
      · have e : few ⟨k, tk, ta, ts, tn, lk, ln, lt, la, sk, sn, sN⟩ = ⟨k, 0, 0, ⟨#[]⟩, 0, 0, ⟨#[]⟩, ⟨#[]⟩, 0, 0, ⟨#[]⟩, 0⟩ := by unfold few; rw [if_neg h1, if_neg h2, if_neg h3]
        rw [e]
        exact few_no k tk ta ts tn lk ln lt la sk sn sN h1 h2 h3 w
def kindN (n : Int) : Nat := (1 + ((n.tmod 3 + 3).tmod 3)).toNat
end Go.Proofs.Yteggenihjhclkaa
