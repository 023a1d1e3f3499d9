/- A Reader behind an error: what each call answers. -/
import Derived.Test.YtiddipimbdffcaaSum
import Derived.Test.YtiddipimbdffcaaPWireStaysx1
import Derived.Test.YtiddipimbdffcaaPWireStaysx2
import Derived.Deep.RegionHeld3
namespace Go.Proofs.Ytiddipimbdffcaa
open Go.RowKit Go.Lib PWireStays Go.Proofs.YtiddipimbdffcaaW.PrintWords Go.Proofs.YtiddipimbdffcaaW.PrintLast Go.Proofs.YtiddipimbdffcaaW.PrintMore
/-- Nothing. -/
abbrev E0 : ByteArray := ⟨#[]⟩
theorem w64_0 : wrap64 0 = 0 := IntWalk.wrap64_in _ ⟨by omega, by omega⟩
theorem take_err (e n : Int) (he : e ≠ 0) : wire_Reader_take.f E0 e n = some (E0, E0, e) := by rw [wire_Reader_take.f, if_neg he]
theorem num_err (e : Int) (he : e ≠ 0) : wire_Reader_Num.f 3 E0 e = some (0, E0, e) := by
  rw [wire_Reader_Num.f]; simp only [wire_Reader_Num.l0, take_err e _ he, Option.bind_some]; rw [if_neg he]
theorem int_err (e : Int) (he : e ≠ 0) : wire_Reader_Int.f 3 E0 e = some (0, E0, e) := by
  rw [wire_Reader_Int.f, num_err e he]; simp only [Option.bind_some]; rw [if_neg (by decide), show (0 : Int) / 2 = 0 from rfl, w64_0]
theorem mx_wrap (m : Int) : ¬ ((0 : Int) > IntKind.u64.wrap (mx m 0)) := by
  have : 0 ≤ IntKind.u64.wrap (mx m 0) := by show 0 ≤ _ % (18446744073709551616 : Int); omega
  omega
theorem upto_err (e m : Int) (he : e ≠ 0) : wire_Reader_Upto.f 3 E0 e m = some (0, E0, e) := by
  rw [wire_Reader_Upto.f, num_err e he]; simp only [Option.bind_some]; rw [if_neg (mx_wrap m), w64_0]
theorem str_err (e m : Int) (he : e ≠ 0) : wire_Reader_Str.f 3 E0 e m = some (E0, E0, e) := by
  rw [wire_Reader_Str.f, upto_err e m he, Option.bind_some, take_err e _ he]; rfl
theorem rtake_err (e n : Int) (he : e ≠ 0) : hindsightref02_Take.f E0 e n = some (E0, e, E0) := by rw [hindsightref02_Take.f, if_neg he]
theorem rnum_err (e : Int) (he : e ≠ 0) : hindsightref02_TakeNum.f 3 E0 e = some (E0, e, 0) := by
  rw [hindsightref02_TakeNum.f]
  simp only [hindsightref02_TakeNum.l0, rtake_err e _ he, Option.bind_some]
  rw [if_pos (by decide)]
  rw [if_neg he]
theorem rint_err (e : Int) (he : e ≠ 0) : hindsightref02_TakeInt.f 3 E0 e = some (E0, e, 0) := by
  rw [hindsightref02_TakeInt.f, rnum_err e he]; simp only [Option.bind_some]; rw [if_neg (by decide), show IntKind.u64.wrap (Int.tdiv 0 2) = 0 from rfl, w64_0]
theorem rupto_err (e m : Int) (he : e ≠ 0) : hindsightref02_Upto.f 3 E0 e m = some (E0, e, 0) := by
  rw [hindsightref02_Upto.f, rnum_err e he]; simp only [Option.bind_some]; rw [if_neg (mx_wrap m), w64_0]
theorem rstr_err (e m : Int) (he : e ≠ 0) : hindsightref02_TakeStr.f 3 E0 e m = some (E0, e, E0) := by
  rw [hindsightref02_TakeStr.f, rupto_err e m he, Option.bind_some, rtake_err e _ he]; rfl
theorem rsums_err (e m : Int) (he : e ≠ 0) : hindsightlaw02_sums.f 3 E0 e m = some (E0, e, E0) := by
  rw [hindsightlaw02_sums.f, rupto_err e m he, Option.bind_some]
  simp only [hindsightlaw02_sums.l0]
  simp [he]
theorem sum32_nil : sum32 E0 = List.replicate 32 0 := by rfl
/-- A call of a Go function as a step of a region. -/
theorem step_go {P : Program} {o : Oper} {a : Act} {w : World} {K : Act → World → Prop} {Q : Exit → Act → World → Prop} {f : FuncId} {fn : Func} (hf : P.funcs[f]? = some fn) (hn : (fn.name == "runtime.NumGoroutine") = false) (hb : fn.body.isSome = true) {xs : Array Operand} {ats : Array TypeId} (ho : o.op = .call { callee := .value (.func f), args := xs, argTypes := ats }) (args : Array Value) (hargs : xs.map a.eval = args)
    (h : Calls P f args w fun e w' => ∃ v, e = .returned v ∧ K (a.put o.dst v) w') : o.wp P a w K Q := by
  obtain ⟨dst, op, type, pos, after, guard⟩ := o
  simp only at ho
  subst ho
  unfold Oper.wp
  rw [execOp_call_go, hargs]
  simp only [Array.empty_append, Array.append_empty]
  have hr : (callFunc f args).run P w = .ok (.enter f args) w := by
    have hn' : ¬ fn.name = "runtime.NumGoroutine" := by simpa using hn
    obtain ⟨bd, hbd⟩ := Option.isSome_iff_exists.1 hb
    simp [callFunc, hf, hn', hbd]
  rw [hr, Oper.upon_enter]
  refine Calls.mono h fun e w' he => ?_
  obtain ⟨v, rfl, hK⟩ := he
  exact hK
/-- A copy of a text into a block of 32 bytes, as a step of a region. -/
theorem wp_copy33 {o : Oper} {a : Act} {w : World} {K : Act → World → Prop} {Q : Exit → Act → World → Prop} {d x : Operand} (ho : o.op = .call { callee := .builtin .copy, args := #[d, x], argTypes := #[35, 9] }) (g : Nat) (cur : Array Value) (s : ByteArray) (hd : a.eval d = .slice (some ⟨g, 0, none⟩) 32 32) (hx : a.eval x = .string s)
    (hg : w.heap[g]? = some (.cells cur 33 (0, 0))) (hc : cur.size = 32)
    (h : K (a.put o.dst (goInt (min (s.size : Int) 32))) (w.setRow g ((u8s (nb s)).take 32 ++ cur.toList.drop (min s.size 32)).toArray)) (hty : o.type = 3 := by rfl) : o.wp Try.prog a w K Q := by
  have hr := run_copy_str w g cur hg hc s
  unfold Oper.wp execOp
  simp only [ho, hty, resolve, invoke, builtin, Sem.run_bind, Sem.run_pure, Result.andThen_ok, List.map_toArray, List.map_cons, List.map_nil, hd, hx, hr]
  exact h
theorem drop_Z32 (t : ByteArray) : ((u8s (nb t)).take 32 ++ Z32.toList.drop (min t.size 32)).toArray = (u8s (sum32 t)).toArray := by
  rw [show Z32.toList = List.replicate 32 (Value.int .u8 0) from rfl, List.drop_replicate, sum32, u8s_append]
  congr 2
  · simp [u8s, List.map_take]
  · simp [u8s]
set_option maxHeartbeats 4000000 in
theorem rsum_any (s t s' : ByteArray) (e e' : Int) (ht : wire_Reader_take.f s e 32 = some (t, s', e')) (g : Nat) (w0 w : World) (hI : IsS63 w0 w g s e) (hB : Below w0.heap.size w0 w) : Calls Try.prog 28 #[.pointer (some ⟨g, 0, none⟩)] w fun r w' => r = .returned (arrV (sum32 t)) ∧ IsS63 w0 w' g s' e' ∧ Below w0.heap.size w0 w' ∧ KeepBut w w' g none := by
  have HT := Lib.hid ht
  obtain ⟨V, hV⟩ : ∃ V, V = (u8s (sum32 t)).toArray := ⟨_, rfl⟩
  have HVV := Lib.hid hV
  have hvs : V.size = 32 := by rw [hV]; simp [u8s_length, sum32_length]
  have H1 := Lib.hid (show ∀ v ∈ V.toList, v.oneCell' = true by rw [hV]; intro u hu; simp [u8s] at hu; obtain ⟨x, _, rfl⟩ := hu; rfl)
  have HI := Lib.hid (((hI.alloc (.cells Z32 33)).alloc (.cells Z32 33)).drew)
  have HB := Lib.hid ((((Turn.ofBelow hB Nope).alloc (.cells Z32 33)).alloc (.cells Z32 33)).drew).nopeBelow
  have HGL := Lib.hid hI.lt
  have HBS := Lib.hid hB.size
  have HZ : Hid (((w.alloc (.cells Z32 33)).alloc (.cells Z32 33)).drew.heap.size = w.heap.size + 2 ∧ ((w.alloc (.cells Z32 33)).alloc (.cells Z32 33)).drew.heap[w.heap.size]? = some (.cells Z32 33 (0, 0)) ∧ ((w.alloc (.cells Z32 33)).alloc (.cells Z32 33)).drew.heap[w.heap.size + 1]? = some (.cells Z32 33 (0, 0))) := by
    refine ⟨by simp, blk_drew (blk_alloc (blk_new w _) _), ?_⟩
    have := blk_new (w.alloc (.cells Z32 33)) (.cells Z32 33); rw [show (w.alloc (.cells Z32 33)).heap.size = w.heap.size + 1 by simp] at this; exact blk_drew this
  have HE : Hid (arrV (sum32 t) = .agg V) := by show _ = _; rw [HVV.out]; rfl
  clear hV hI hB ht
  go_enter Try.func28, Try.ntmps28
  go_wp2_with fail
  refine wp_region_held_drew (S := fun _ => True) (by kernel_rfl) trivial (fun hHeld => ?_)
  refine wpAnyH_take (i := 0) (v := .slice (some ⟨w.heap.size + 1, 0, none⟩) 32 32) (by simp only [List.getElem?_toArray, List.getElem?_cons_succ, List.getElem?_cons_zero]; rfl) (by kernel_rfl) (by kernel_rfl) (by kernel_rfl) (by intro _ _ _ h; exact h) (Or.inl ⟨by rfl, fun w hSw => by go_simp⟩) hHeld ?_
  refine wpAnyH_take (i := 1) (v := .pointer (some ⟨g, 0, none⟩)) (by simp only [List.getElem?_toArray, List.getElem?_cons_succ, List.getElem?_cons_zero]; rfl) (by kernel_rfl) (by kernel_rfl) (by kernel_rfl) (by intro _ _ _ h; exact h) (Or.inl ⟨by rfl, fun w hSw => by rfl⟩) hHeld ?_
  simp only [Act.put, List.setIfInBounds_toArray, List.set_cons_zero, List.set_cons_succ]
  refine wpAnyH_ready (rs := [2]) (by kernel_rfl) (by simp) (AllReadyH.cons (by simp only [List.getElem?_toArray, List.getElem?_cons_succ, List.getElem?_cons_zero]; rfl) (fun K hK => ?_) AllReadyH.nil)
  · rw [if_pos (by rfl)]
    refine step_go Try.func29 (by kernel_rfl) (by kernel_rfl) rfl #[.pointer (some ⟨g, 0, none⟩), .int .i64 32] (by simp only [List.map_toArray, List.map_cons, List.map_nil]; rfl) ((wire_Reader_take.calls _ _ _ _ _ _ _ w0 _ HI.out HB.out HT.out).mono ?_)
    rintro e1 w29 ⟨rfl, hi, hb, hk⟩
    refine ⟨_, rfl, hK.out _ _ trivial (fun hHeld => ?_)⟩
    have HI2 := Lib.hid hi
    have HB2 := Lib.hid hb
    have H3 : Hid (w29.heap[w.heap.size + 1]? = some (.cells Z32 33 (0, 0))) := (hk.2 _ (by rw [HZ.out.1]; omega) (by have := HGL.out; omega) (by simp)).trans HZ.out.2.2
    have HKB : Hid (w.heap.size + 2 ≤ w29.heap.size ∧ ∀ i, i < w.heap.size → i ≠ g → w29.heap[i]? = w.heap[i]?) := ⟨by have h1 := hk.1; rw [HZ.out.1] at h1; exact h1, fun i hi hg => (hk.2 i (by rw [HZ.out.1]; omega) hg (by simp)).trans (((Turn.alloc (Turn.alloc (Turn.refl Nope w) (.cells Z32 33)) (.cells Z32 33)).drew).block i hi id)⟩
    have H2 : Hid (w29.heap[w.heap.size]? = some (.cells Z32 33 (0, 0))) := (hk.2 _ (by rw [HZ.out.1]; omega) (by have := HGL.out; omega) (by simp)).trans HZ.out.2.1
    clear hi hb hk hK K
    simp only [Act.put, List.setIfInBounds_toArray, List.set_cons_zero, List.set_cons_succ]
    refine wpAnyH_ready (rs := [3]) (by kernel_rfl) (by simp) (AllReadyH.cons (by simp only [List.getElem?_toArray, List.getElem?_cons_succ, List.getElem?_cons_zero]; rfl) (fun K hK => ?_) AllReadyH.nil)
    · rw [if_pos (by rfl)]
      refine wp_copy33 rfl (w.heap.size + 1) Z32 t rfl rfl H3.out Z32_size ?_
      refine hK.out _ _ trivial (fun hHeld => ?_)
      clear hK K
      simp only [Act.put, List.setIfInBounds_toArray, List.set_cons_zero, List.set_cons_succ]
      refine wpAnyH_done (by kernel_rfl) ?_ _
      rw [drop_Z32, ← HVV.out]
      have HX : Hid ((w29.setRow (w.heap.size + 1) V).heap[w.heap.size + 1]? = some (.cells V 33 (0, 0)) ∧ (w29.setRow (w.heap.size + 1) V).heap[w.heap.size]? = some (.cells Z32 33 (0, 0))) := ⟨setRow_heap _ _ Z32 V 33 (0, 0) H3.out, (setRow_other _ _ _ _ (by omega)).trans H2.out⟩
      have HIX : Hid (IsS63 w0 (w29.setRow (w.heap.size + 1) V) g s' e') := ⟨(setRow_other _ _ _ _ (by have := HGL.out; omega)).trans HI2.out.1, HI2.out.2⟩
      have HKX : Hid (w.heap.size ≤ (w29.setRow (w.heap.size + 1) V).heap.size ∧ ∀ i, i < w.heap.size → i ≠ g → (w29.setRow (w.heap.size + 1) V).heap[i]? = w.heap[i]?) := ⟨by have := HKB.out.1; simp; omega, fun i hi hg => (setRow_other _ _ _ _ (by omega)).trans (HKB.out.2 i hi hg)⟩
      have HBX := Lib.hid (below_setRow HB2.out (show w0.heap.size ≤ w.heap.size + 1 by have := HBS.out; omega) V)
      generalize w29.setRow (w.heap.size + 1) V = wy at HX HIX HBX HKX ⊢
      go_wp2_with (first | (refine wpList_load33 rfl _ rfl (w.heap.size + 1) V rfl HX.out.1 hvs ?_) | (refine wpList_store33 rfl _ _ rfl w.heap.size Z32 V rfl rfl HX.out.2 Z32_size hvs H1.out ?_))
      have hb0 := setRow_heap wy w.heap.size Z32 V 33 (0, 0) HX.out.2
      refine bodyPost_ret_by (results_c rfl _ _ w.heap.size 33 V (0, 0) _ rfl hb0 Try.underlying33 rfl (by rw [hvs]; exact Try.info33)) rfl ⟨?_, ?_, ?_, ?_⟩
      · rw [HE.out]
      · exact ⟨(setRow_other _ _ _ _ (by have := HGL.out; omega)).trans HIX.out.1, HIX.out.2⟩
      · exact below_setRow HBX.out HBS.out V
      · exact ⟨by have := HKX.out.1; simpa using this, fun i hi hg _ => (setRow_other _ _ _ _ (by omega)).trans (HKX.out.2 i hi hg)⟩
theorem cells63 {w0 W : World} {g : Nat} {s : ByteArray} {e : Int} (h : IsS63 w0 W g s e) : W.cell? ⟨g, 0, none⟩ = some (.string s) ∧ W.frozen? ⟨g, 0, none⟩ = false ∧ W.cell? ⟨g, 1, none⟩ = some (.int .i64 e) ∧ W.frozen? ⟨g, 1, none⟩ = false :=
  ⟨cellS63_0 h.1, blk_frozen h.1 0, cellS63_1 h.1, blk_frozen h.1 1⟩
set_option maxHeartbeats 4000000 in
theorem rsums_err' (e m : Int) (he : e ≠ 0) (g : Nat) (w0 w : World) (hI : IsS63 w0 w g E0 e) (hB : Below w0.heap.size w0 w) : Calls Try.prog 25 #[.pointer (some ⟨g, 0, none⟩), .int .i64 m] w fun r w' => r = .returned (.slice none 0 0) ∧ IsS63 w0 w' g E0 e ∧ Below w0.heap.size w0 w' ∧ KeepBut w w' g none := by
  have HI := Lib.hid hI
  have HB := Lib.hid hB
  have HU := Lib.hid (upto_err e m he)
  have b1 : (e != 0) = true := by simpa using he
  clear hI hB
  go_enter Try.func25, Try.ntmps25
  go_wp2_with (first | (go_at_call 32; refine (wire_Reader_Upto.calls 3 _ _ _ _ _ _ _ w0 _ HI.out HB.out HU.out).mono ?_; rintro e1 w32 ⟨rfl, hi, hb, hk⟩; have HI2 := Lib.hid hi; have HB2 := Lib.hid hb; have HK2 := Lib.hid hk; obtain ⟨c0, f0, c1, f1⟩ := cells63 hi; clear hi hb hk))
  go_loopg [6] 0 (fun gk v6 wr => v6 = .int .i64 0 ∧ wr = w32)
  case atStart => exact ⟨rfl, rfl⟩
  case round =>
    obtain ⟨rfl, rfl⟩ := hrel
    go_wp2_with fail
    go_ret
    exact ⟨rfl, HI2.out, HB2.out, HK2.out⟩
theorem one_Z32 : ∀ v ∈ Z32.toList, v.oneCell' = true := by
  intro v hv
  rw [Z32_eq] at hv
  simp [u8s] at hv
  subst hv
  rfl
theorem eq33 : ∀ W : World, (binOp .eql 33 (.agg Z32) (.agg Z32)).run Try.prog W = .ok (.bool true) W := fun W => by kernel_rfl
/-- What a taking holds in memory: the document's reader, what is to be taken, the result, the Reader. -/
def TK (w0 wS : World) (b g : Nat) (e kind n : Int) (W : World) : Prop := W.heap[b]? = some (.cells #[.string E0, .int .i64 e] 51 (0, 0)) ∧ W.heap[b + 1]? = some (.cells #[.int .i64 kind, .int .i64 n] 55 (0, 0)) ∧ W.heap[b + 1 + 1]? = some (.cells #[.string E0, .int .i64 0] 51 (0, 0)) ∧ IsS63 w0 W g E0 e ∧ Below w0.heap.size w0 W ∧ g < b ∧ ∀ i, i < b → i ≠ g → W.heap[i]? = wS.heap[i]?
theorem TK.reader {w0 wS W W' : World} {b g : Nat} {e kind n : Int} (h : TK w0 wS b g e kind n W) (hi : IsS63 w0 W' g E0 e) (hb : Below w0.heap.size w0 W') (hk : KeepBut W W' g none) : TK w0 wS b g e kind n W' := by
  obtain ⟨h1, h2, h3, h4, h5, h6, h7⟩ := h
  have hbl := blk_lt h1
  exact ⟨(hk.2 _ (blk_lt h1) (by omega) (by simp)).trans h1, (hk.2 _ (blk_lt h2) (by omega) (by simp)).trans h2, (hk.2 _ (blk_lt h3) (by omega) (by simp)).trans h3, hi, hb, h6, fun i hi hg => (hk.2 i (by omega) hg (by simp)).trans (h7 i hi hg)⟩
theorem TK.below {w0 wS W W' : World} {b g : Nat} {e kind n : Int} (h : TK w0 wS b g e kind n W) (hb : Below W.heap.size W W') : TK w0 wS b g e kind n W' := by
  obtain ⟨h1, h2, h3, h4, h5, h6, h7⟩ := h
  have hbl := blk_lt h1
  exact ⟨blk_below hb h1 (blk_lt h1), blk_below hb h2 (blk_lt h2), blk_below hb h3 (blk_lt h3), h4.below hb, ((Turn.ofBelow h5 Nope).below hb).nopeBelow, h6, fun i hi hg => (hb.block i (by omega)).trans (h7 i hi hg)⟩
theorem TK.cells {w0 wS W : World} {b g : Nat} {e kind n : Int} (h : TK w0 wS b g e kind n W) : W.cell? ⟨b, 0, none⟩ = some (.string E0) ∧ W.cell? ⟨b, 1, none⟩ = some (.int .i64 e) ∧ W.cell? ⟨b + 1, 0, none⟩ = some (.int .i64 kind) ∧ W.cell? ⟨b + 1, 1, none⟩ = some (.int .i64 n) ∧ W.cell? ⟨b + 1 + 1, 0, none⟩ = some (.string E0) ∧ W.cell? ⟨b + 1 + 1, 1, none⟩ = some (.int .i64 0) ∧ W.frozen? ⟨b + 1 + 1, 0, none⟩ = false ∧ W.frozen? ⟨b + 1 + 1, 1, none⟩ = false :=
  ⟨(blk_cell h.1 0).trans rfl, (blk_cell h.1 1).trans rfl, (blk_cell h.2.1 0).trans rfl, (blk_cell h.2.1 1).trans rfl, (blk_cell h.2.2.1 0).trans rfl, (blk_cell h.2.2.1 1).trans rfl, blk_frozen h.2.2.1 0, blk_frozen h.2.2.1 1⟩
theorem TK.fin {w0 wS W : World} {b g : Nat} {e kind n : Int} (h : TK w0 wS b g e kind n W) : ((W.setCell ⟨b + 1 + 1, 0, none⟩ (.string E0)).setCell ⟨b + 1 + 1, 1, none⟩ (.int .i64 e)).heap[b + 1 + 1]? = some (.cells #[.string E0, .int .i64 e] 51 (0, 0)) ∧ IsS63 w0 ((W.setCell ⟨b + 1 + 1, 0, none⟩ (.string E0)).setCell ⟨b + 1 + 1, 1, none⟩ (.int .i64 e)) g E0 e ∧ Below w0.heap.size w0 ((W.setCell ⟨b + 1 + 1, 0, none⟩ (.string E0)).setCell ⟨b + 1 + 1, 1, none⟩ (.int .i64 e)) ∧ b ≤ ((W.setCell ⟨b + 1 + 1, 0, none⟩ (.string E0)).setCell ⟨b + 1 + 1, 1, none⟩ (.int .i64 e)).heap.size ∧ ∀ i, i < b → i ≠ g → ((W.setCell ⟨b + 1 + 1, 0, none⟩ (.string E0)).setCell ⟨b + 1 + 1, 1, none⟩ (.int .i64 e)).heap[i]? = wS.heap[i]? := by
  obtain ⟨h1, h2, h3, h4, h5, h6, h7⟩ := h
  have hbl := blk_lt h1
  have hg := h4.ge
  refine ⟨?_, (h4.far (by show g ≠ b + 1 + 1; omega) _).far (by show g ≠ b + 1 + 1; omega) _, (((Turn.ofBelow h5 Nope).set_new (by omega) _).set_new (by omega) _).nopeBelow, by simp [World.setCell]; omega, fun i hi hg => ((Below.heap_setCell _ _ _ i (by show i ≠ b + 1 + 1; omega)).trans (Below.heap_setCell _ _ _ i (by show i ≠ b + 1 + 1; omega))).trans (h7 i hi hg)⟩
  have := blk_set (blk_set h3 0 (.string E0)) 1 (.int .i64 e)
  simpa using this
theorem TK.new {w0 w : World} {g : Nat} {e : Int} (kind n : Int) (hI : IsS63 w0 w g E0 e) (hB : Below w0.heap.size w0 w) : TK w0 w w.heap.size g e kind n (((w.alloc (.cells #[.string E0, .int .i64 e] 51)).alloc (.cells #[.int .i64 kind, .int .i64 n] 55)).alloc (.cells #[.string E0, .int .i64 0] 51)) := by
  have h2 := blk_new (w.alloc (.cells #[.string E0, .int .i64 e] 51)) (.cells #[.int .i64 kind, .int .i64 n] 55)
  have h3 := blk_new ((w.alloc (.cells #[.string E0, .int .i64 e] 51)).alloc (.cells #[.int .i64 kind, .int .i64 n] 55)) (.cells #[.string E0, .int .i64 0] 51)
  simp only [World.size_alloc] at h2 h3
  exact ⟨blk_alloc (blk_alloc (blk_new w _) _) _, blk_alloc h2 _, h3, ((hI.alloc _).alloc _).alloc _, ((((Turn.ofBelow hB Nope).alloc _).alloc _).alloc _).nopeBelow, hI.lt, fun i hi hg => ((((Turn.refl Nope w).alloc _).alloc _).alloc _).block i hi id⟩
/-- What the last region of a Sum's taking reads. -/
def SP (qa q : Nat) (e : Int) (W : World) : Prop := W.heap[qa]? = some (.cells #[.string E0, .int .i64 e] 51 (0, 0)) ∧ W.heap[q]? = some (.cells Z32 33 (0, 0))
theorem SP.r1 {qa q : Nat} {e : Int} {W : World} (h : SP qa q e W) : W.rangeAt qa 0 [.string E0, .int .i64 e] := fun j v hv => by rw [Nat.zero_add, blk_cell h.1]; simpa using hv
theorem SP.r2 {qa q : Nat} {e : Int} {W : World} (h : SP qa q e W) : W.rangeAt q 0 Z32.toList := fun j v hv => by rw [Nat.zero_add, blk_cell h.2]; simpa using hv
theorem SP.below {qa q : Nat} {e : Int} {W W' : World} (h : SP qa q e W) (hb : Below W.heap.size W W') : SP qa q e W' := ⟨(Turn.toNope hb).blk h.1 id, (Turn.toNope hb).blk h.2 id⟩
theorem SP.set {qa q b : Nat} {e : Int} {W : World} {u v : Value} (h : SP qa q e W) (h1 : qa ≠ b) (h2 : q ≠ b) : SP qa q e (W.setCells b 0 #[u, v].toList) := ⟨blk_far (p := ⟨b, 1, none⟩) (blk_far (p := ⟨b, 0, none⟩) h.1 h1 u) h1 v, blk_far (p := ⟨b, 1, none⟩) (blk_far (p := ⟨b, 0, none⟩) h.2 h2 u) h2 v⟩
theorem TK.there {w0 wS W : World} {b g : Nat} {e kind n : Int} (h : TK w0 wS b g e kind n W) : W.there (b + 1 + 1) 0 (#[.string E0, .int .i64 e] : Array Value).size := fun j hj => by
  have hj' : j < 2 := hj
  rw [Nat.zero_add]
  refine ⟨?_, blk_frozen h.2.2.1 j⟩
  rw [blk_cell h.2.2.1]
  match j, hj' with
  | 0, _ => rfl
  | 1, _ => rfl
theorem step_eq33 {d : Option Tmp} {a : Act} {x y : Operand} {ty : TypeId} {ps : String} {af : Array Edge} {gd : Option (Nat × Bool)} (hx : a.eval x = .agg Z32) (hy : a.eval y = .agg Z32) (W : World) : (execOp a.eval { dst := d, op := .binOp .eql 33 x y 33, type := ty, pos := ps, after := af, guard := gd }).run Try.prog W = .ok (.value (.bool true)) W := by
  simp only [execOp, hx, hy]
  simp [eqGuard, eq33]
set_option maxHeartbeats 4000000 in
set_option maxRecDepth 8000 in
theorem taken_err (kind n e : Int) (he : e ≠ 0) (g : Nat) (w0 w : World) (hI : IsS63 w0 w g E0 e) (hB : Below w0.heap.size w0 w) : Calls Try.prog 24 #[.pointer (some ⟨g, 0, none⟩), .agg #[.string E0, .int .i64 e], .agg #[.int .i64 kind, .int .i64 n]] w fun r w' => r = .returned (.tuple #[.agg #[.string E0, .int .i64 e], .bool true]) ∧ IsS63 w0 w' g E0 e ∧ Below w0.heap.size w0 w' ∧ w.heap.size ≤ w'.heap.size ∧ ∀ i, i < w.heap.size → i ≠ g → w'.heap[i]? = w.heap[i]? := by
  have HT := Lib.hid (TK.new kind n hI hB)
  have HI0 := Lib.hid hI
  have HB0 := Lib.hid hB
  clear hI hB
  by_cases k1 : kind = 1
  · subst k1
    go_enter Try.func24, Try.ntmps24
    go_wp2_with (first
      | (go_at_call 10; refine (wire_Reader_Num.calls 3 _ _ _ _ _ _ w0 _ HT.out.2.2.2.1 HT.out.2.2.2.2.1 (num_err e he)).mono ?_; rintro e1 w1 ⟨rfl, hi, hb, hk⟩; have HT := Lib.hid (TK.reader HT.out hi hb hk); obtain ⟨c0, c1, c2, c3, c4, c5, f4, f5⟩ := TK.cells HT.out; clear hi hb hk)
      | (go_at_call 30; refine (hindsightref02_TakeNum.calls 3 _ _ _ _ _ _ (rnum_err e he)).mono ?_; rintro e1 w2 ⟨rfl, hb⟩; have HT := Lib.hid (TK.below HT.out hb); obtain ⟨c0, c1, c2, c3, c4, c5, f4, f5⟩ := TK.cells HT.out; have HT3 := Lib.hid (HT.out.below (((Turn.refl Nope w2).alloc (.cells #[.string E0, .int .i64 e] 51)).nopeBelow)); obtain ⟨d0, d1, d2, d3, d4, d5, g4, g5⟩ := TK.cells HT3.out; clear hb))
    have HF := TK.fin HT3.out
    exact bodyPost_ret_by (results_ct rfl _ _ (w.heap.size + 1 + 1) 51 #[.string E0, .int .i64 e] (0, 0) _ rfl HF.1 Try.underlying51 rfl (by kernel_rfl)) rfl ⟨rfl, HF.2⟩
  by_cases k2 : kind = 2
  · subst k2
    go_enter Try.func24, Try.ntmps24
    go_wp2_with (first
      | (go_at_call 27; refine (wire_Reader_Int.calls 3 _ _ _ _ _ _ w0 _ HT.out.2.2.2.1 HT.out.2.2.2.2.1 (int_err e he)).mono ?_; rintro e1 w1 ⟨rfl, hi, hb, hk⟩; have HT := Lib.hid (TK.reader HT.out hi hb hk); obtain ⟨c0, c1, c2, c3, c4, c5, f4, f5⟩ := TK.cells HT.out; clear hi hb hk)
      | (go_at_call 31; refine (hindsightref02_TakeInt.calls 3 _ _ _ _ _ _ (rint_err e he)).mono ?_; rintro e1 w2 ⟨rfl, hb⟩; have HT := Lib.hid (TK.below HT.out hb); obtain ⟨c0, c1, c2, c3, c4, c5, f4, f5⟩ := TK.cells HT.out; have HT3 := Lib.hid (HT.out.below (((Turn.refl Nope w2).alloc (.cells #[.string E0, .int .i64 e] 51)).nopeBelow)); obtain ⟨d0, d1, d2, d3, d4, d5, g4, g5⟩ := TK.cells HT3.out; clear hb))
    have HF := TK.fin HT3.out
    exact bodyPost_ret_by (results_ct rfl _ _ (w.heap.size + 1 + 1) 51 #[.string E0, .int .i64 e] (0, 0) _ rfl HF.1 Try.underlying51 rfl (by kernel_rfl)) rfl ⟨rfl, HF.2⟩
  by_cases k3 : kind = 3
  · subst k3
    go_enter Try.func24, Try.ntmps24
    go_wp2_with (first
      | (go_at_call 32; refine (wire_Reader_Upto.calls 3 _ _ _ _ _ _ _ w0 _ HT.out.2.2.2.1 HT.out.2.2.2.2.1 (upto_err e n he)).mono ?_; rintro e1 w1 ⟨rfl, hi, hb, hk⟩; have HT := Lib.hid (TK.reader HT.out hi hb hk); obtain ⟨c0, c1, c2, c3, c4, c5, f4, f5⟩ := TK.cells HT.out; clear hi hb hk)
      | (go_at_call 33; refine (hindsightref02_Upto.calls 3 _ _ _ _ _ _ _ (rupto_err e n he)).mono ?_; rintro e1 w2 ⟨rfl, hb⟩; have HT := Lib.hid (TK.below HT.out hb); obtain ⟨c0, c1, c2, c3, c4, c5, f4, f5⟩ := TK.cells HT.out; have HT3 := Lib.hid (HT.out.below (((Turn.refl Nope w2).alloc (.cells #[.string E0, .int .i64 e] 51)).nopeBelow)); obtain ⟨d0, d1, d2, d3, d4, d5, g4, g5⟩ := TK.cells HT3.out; clear hb))
    have HF := TK.fin HT3.out
    exact bodyPost_ret_by (results_ct rfl _ _ (w.heap.size + 1 + 1) 51 #[.string E0, .int .i64 e] (0, 0) _ rfl HF.1 Try.underlying51 rfl (by kernel_rfl)) rfl ⟨rfl, HF.2⟩
  by_cases k4 : kind = 4
  · subst k4
    go_enter Try.func24, Try.ntmps24
    go_wp2_with (first
      | (go_at_call 26; refine (wire_Reader_Str.calls 3 _ _ _ _ _ _ _ w0 _ HT.out.2.2.2.1 HT.out.2.2.2.2.1 (str_err e n he)).mono ?_; rintro e1 w1 ⟨rfl, hi, hb, hk⟩; have HT := Lib.hid (TK.reader HT.out hi hb hk); obtain ⟨c0, c1, c2, c3, c4, c5, f4, f5⟩ := TK.cells HT.out; clear hi hb hk)
      | (go_at_call 34; refine (hindsightref02_TakeStr.calls 3 _ _ _ _ _ _ _ (rstr_err e n he)).mono ?_; rintro e1 w2 ⟨rfl, hb⟩; have HT := Lib.hid (TK.below HT.out hb); obtain ⟨c0, c1, c2, c3, c4, c5, f4, f5⟩ := TK.cells HT.out; have HT3 := Lib.hid (HT.out.below (((Turn.refl Nope w2).alloc (.cells #[.string E0, .int .i64 e] 51)).nopeBelow)); obtain ⟨d0, d1, d2, d3, d4, d5, g4, g5⟩ := TK.cells HT3.out; clear hb))
    have HF := TK.fin HT3.out
    exact bodyPost_ret_by (results_ct rfl _ _ (w.heap.size + 1 + 1) 51 #[.string E0, .int .i64 e] (0, 0) _ rfl HF.1 Try.underlying51 rfl (by kernel_rfl)) rfl ⟨rfl, HF.2⟩
  by_cases k5 : kind = 5
  · subst k5
    have hz := Z32_size
    go_enter Try.func24, Try.ntmps24
    go_wp2_with (first
      | (go_at_call 28; refine (rsum_any E0 E0 E0 e e (take_err e 32 he) g w0 _ HT.out.2.2.2.1 HT.out.2.2.2.2.1).mono ?_; rintro e1 w1 ⟨rfl, hi, hb, hk⟩; rw [show arrV (sum32 E0) = .agg Z32 from rfl]; have HT := Lib.hid (TK.reader HT.out hi hb hk); have HT1 := HT; obtain ⟨c0, c1, c2, c3, c4, c5, f4, f5⟩ := TK.cells HT.out; clear hi hb hk)
      | (refine wpList_store33_new rfl _ _ rfl Z32 Z32 rfl rfl Z32_size Z32_size one_Z32 ?_; have HT := Lib.hid (HT.out.below (((Turn.refl Nope w1).alloc (.cells Z32 33)).nopeBelow)); obtain ⟨c0, c1, c2, c3, c4, c5, f4, f5⟩ := TK.cells HT.out; have HQ := Lib.hid (blk_new w1 (.cells Z32 33)))
      | (go_at_call 35; refine (hindsightref02_Take.calls _ _ _ _ _ _ _ (rtake_err e 32 he)).mono ?_; rintro e1 w2 ⟨rfl, hb⟩; have HT := Lib.hid (TK.below HT.out hb); obtain ⟨c0, c1, c2, c3, c4, c5, f4, f5⟩ := TK.cells HT.out; have HT3 := Lib.hid (HT.out.below (((Turn.refl Nope w2).alloc (.cells #[.string E0, .int .i64 e] 51)).nopeBelow)); obtain ⟨d0, d1, d2, d3, d4, d5, g4, g5⟩ := TK.cells HT3.out; have HQ2 := Lib.hid ((Turn.toNope hb).blk HQ.out id); have HQ3 := Lib.hid (blk_alloc HQ2.out (.cells #[.string E0, .int .i64 e] 51)); clear hb))
    have hu33 := Try.underlying33
    have hu51 := Try.underlying51
    have hi33 : (Try.prog.info? 33).map (·.size) = some Z32.toList.length := Try.info33
    have hi51 : (Try.prog.info? 51).map (·.size) = some ([.string E0, .int .i64 e] : List Value).length := by kernel_rfl
    have HN : Hid (w.heap.size + 1 + 1 < w1.heap.size ∧ w.heap.size + 1 + 1 < w2.heap.size) := ⟨(blk_lt HT1.out.2.2.1), (blk_lt HT.out.2.2.1)⟩
    generalize hqa : w2.heap.size = qa at *
    generalize hq : w1.heap.size = q at *
    have HS0 : Hid (SP qa q e (w2.alloc (.cells #[.string E0, .int .i64 e] 51)).drew) := ⟨by rw [← hqa]; exact blk_drew (blk_new w2 _), blk_drew HQ3.out⟩
    have HT4 := Lib.hid (HT3.out.below ((Turn.refl Nope _).drew.nopeBelow))
    refine wp_region_held_drew (S := fun W => SP qa q e W) (by kernel_rfl) HS0.out (fun hHeld => ?_)
    refine wpAnyH_take (i := 0) (by simp only [List.getElem?_toArray, List.getElem?_cons_succ, List.getElem?_cons_zero]; rfl) (by kernel_rfl) (by kernel_rfl) (by kernel_rfl) (by intro _ _ _ h; exact h) (by exact yieldsIf_load_mid (by rfl) _ _ rfl _ _ rfl [.string E0, .int .i64 e] _ (fun w h => h.r1) hu51 rfl hi51) hHeld ?_
    refine wpAnyH_take (i := 1) (by simp only [List.getElem?_toArray, List.getElem?_cons_succ, List.getElem?_cons_zero]; rfl) (by kernel_rfl) (by kernel_rfl) (by kernel_rfl) (by intro _ _ _ h; exact h) (by exact yieldsIf_load_mid (by rfl) _ _ rfl _ _ rfl Z32.toList _ (fun w h => h.r2) hu33 rfl hi33) hHeld ?_
    refine wpAnyH_take (i := 2) (v := .string E0) (by simp only [List.getElem?_toArray, List.getElem?_cons_succ, List.getElem?_cons_zero]; rfl) (by kernel_rfl) (by kernel_rfl) (by kernel_rfl) (by intro _ _ _ h; exact h) (Or.inl ⟨by rfl, fun w hSw => by rfl⟩) hHeld ?_
    simp only [Act.put, List.setIfInBounds_toArray, List.set_cons_zero, List.set_cons_succ]
    refine wpAnyH_ready (rs := [3]) (by kernel_rfl) (by simp) (AllReadyH.cons (by simp only [List.getElem?_toArray, List.getElem?_cons_succ, List.getElem?_cons_zero]; rfl) (fun K hK => ?_) AllReadyH.nil)
    · rw [if_pos (by rfl)]
      refine step_go Try.func14 (by kernel_rfl) (by kernel_rfl) rfl #[.string E0] (by simp only [List.map_toArray, List.map_cons, List.map_nil]; rfl) ((lsum_any E0 _).mono ?_)
      rintro e1 w14 ⟨rfl, hb⟩
      rw [show arrV (sum32 E0) = .agg Z32 from rfl]
      refine ⟨_, rfl, hK.out _ _ (hHeld.below hb) (fun hHeld => ?_)⟩
      have HT5 := Lib.hid (HT4.out.below hb)
      clear hb hK K
      simp only [Act.put, List.setIfInBounds_toArray, List.set_cons_zero, List.set_cons_succ]
      refine wpAnyH_take (i := 4) (v := .bool true) (by simp only [List.getElem?_toArray, List.getElem?_cons_succ, List.getElem?_cons_zero]; rfl) (by kernel_rfl) (by kernel_rfl) (by kernel_rfl) (by intro _ _ _ h; exact h) (Or.inl ⟨by rfl, fun w _ => step_eq33 rfl rfl w⟩) hHeld ?_
      simp only [Act.put, List.setIfInBounds_toArray, List.set_cons_zero, List.set_cons_succ]
      refine wpAnyH_ready (rs := [5]) (by kernel_rfl) (by simp) (AllReadyH.cons (by simp only [List.getElem?_toArray, List.getElem?_cons_succ, List.getElem?_cons_zero]; rfl) (fun K hK => ?_) AllReadyH.nil)
      · rw [if_pos (by rfl)]
        refine wp_store_mid 51 _ _ rfl (w.heap.size + 1 + 1) 0 #[.string E0, .int .i64 e] rfl rfl HT5.out.there hi51 (by simp [Value.oneCell']) ?_
        refine hK.out _ _ (hHeld.set (by have := HN.out; omega) (by have := HN.out; omega)) (fun hHeld => ?_)
        clear hK K
        simp only [Act.put, List.setIfInBounds_toArray, List.set_cons_zero, List.set_cons_succ]
        refine wpAnyH_take (i := 6) (v := .bool true) (by simp only [List.getElem?_toArray, List.getElem?_cons_succ, List.getElem?_cons_zero]; rfl) (by kernel_rfl) (by kernel_rfl) (by kernel_rfl) (by intro _ _ _ h; exact h) (Or.inl ⟨by rfl, fun w hSw => by rfl⟩) hHeld ?_
        simp only [Act.put, List.setIfInBounds_toArray, List.set_cons_zero, List.set_cons_succ]
        refine wpAnyH_done (by kernel_rfl) ?_ _
        go_wp2_with fail
        have HF := TK.fin HT5.out
        exact bodyPost_ret_by (results_ct rfl _ _ (w.heap.size + 1 + 1) 51 #[.string E0, .int .i64 e] (0, 0) _ rfl HF.1 Try.underlying51 rfl (by kernel_rfl)) rfl ⟨rfl, HF.2⟩
  by_cases k6 : kind = 6
  · subst k6
    go_enter Try.func24, Try.ntmps24
    go_wp2_with (first
      | (go_at_call 25; refine (rsums_err' e n he g w0 _ HT.out.2.2.2.1 HT.out.2.2.2.2.1).mono ?_; rintro e1 w1 ⟨rfl, hi, hb, hk⟩; have HT := Lib.hid (TK.reader HT.out hi hb hk); obtain ⟨c0, c1, c2, c3, c4, c5, f4, f5⟩ := TK.cells HT.out; clear hi hb hk)
      | (go_at_call 36; refine (hindsightlaw02_sums.calls 3 _ _ _ _ _ _ _ (rsums_err e n he)).mono ?_; rintro e1 w2 ⟨rfl, hb⟩; have HT := Lib.hid (TK.below HT.out hb); obtain ⟨c0, c1, c2, c3, c4, c5, f4, f5⟩ := TK.cells HT.out; have HT3 := Lib.hid (HT.out.below (((Turn.refl Nope w2).alloc (.cells #[.string E0, .int .i64 e] 51)).nopeBelow)); obtain ⟨d0, d1, d2, d3, d4, d5, g4, g5⟩ := TK.cells HT3.out; clear hb))
    go_loopg [26, 120] 0 (fun gk va v wr => va = .string E0 ∧ v = .int .i64 0 ∧ wr = w2.alloc (.cells #[.string E0, .int .i64 e] 51))
    case atStart => exact ⟨rfl, rfl, rfl⟩
    case round =>
      obtain ⟨rfl, rfl, rfl⟩ := hrel
      go_wp2_with fail
      have HF := TK.fin HT3.out
      exact bodyPost_ret_by (results_ct rfl _ _ (w.heap.size + 1 + 1) 51 #[.string E0, .int .i64 e] (0, 0) _ rfl HF.1 Try.underlying51 rfl (by kernel_rfl)) rfl ⟨rfl, HF.2⟩
  have b1 : (kind == 1) = false := by simpa using k1
  have b2 : (kind == 2) = false := by simpa using k2
  have b3 : (kind == 3) = false := by simpa using k3
  have b4 : (kind == 4) = false := by simpa using k4
  have b5 : (kind == 5) = false := by simpa using k5
  have b6 : (kind == 6) = false := by simpa using k6
  obtain ⟨c0, c1, c2, c3, c4, c5, f4, f5⟩ := TK.cells HT.out
  go_enter Try.func24, Try.ntmps24
  go_wp2_with fail
  have h3 := blk_new ((w.alloc (.cells #[.string E0, .int .i64 e] 51)).alloc (.cells #[.int .i64 kind, .int .i64 n] 55)) (.cells #[.string E0, .int .i64 e] 51)
  simp only [World.size_alloc] at h3
  exact bodyPost_ret_by (results_ct rfl _ _ (w.heap.size + 1 + 1) 51 #[.string E0, .int .i64 e] (0, 0) _ rfl h3 Try.underlying51 rfl (by kernel_rfl)) rfl ⟨rfl, ((HI0.out.alloc _).alloc _).alloc _, ((((Turn.ofBelow HB0.out Nope).alloc _).alloc _).alloc _).nopeBelow, by simp; omega, fun i hi hg => ((((Turn.refl Nope w).alloc _).alloc _).alloc _).block i hi id⟩
end Go.Proofs.Ytiddipimbdffcaa
