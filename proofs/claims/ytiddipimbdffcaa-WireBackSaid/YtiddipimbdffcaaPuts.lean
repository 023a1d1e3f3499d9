/- Once around: any things that are put, what the document lays for them. -/
import Derived.Test.YtiddipimbdffcaaRint
import Derived.Test.YtiddipimbdffcaaAwake
import Derived.Test.YtiddipimbdffcaaOne
import Derived.Test.YtiddipimbdffcaaMine
import Derived.Great.BuildSlice
import Derived.Deep.RegionHeld3
set_option linter.unusedSimpArgs false
set_option linter.unusedVariables false
namespace Go.Proofs.Ytiddipimbdffcaa
open Go.RowKit Go.Lib PWireOne
/-- A call of a Go function as a step of a region. -/
theorem step_go {P : Program} {o : Oper} {a : Act} {w : World} {K : Act → World → Prop} {Q : Exit → Act → World → Prop} {f : FuncId} {fn : Func} (hf : P.funcs[f]? = some fn) (hn : (fn.name == "runtime.NumGoroutine") = false) (hb : fn.body.isSome = true) {xs : Array Operand} {ats : Array TypeId} (ho : o.op = .call { callee := .value (.func f), args := xs, argTypes := ats }) (args : Array Value) (hargs : xs.map a.eval = args)
    (h : Calls P f args w fun e w' => ∃ v, e = .returned v ∧ K (a.put o.dst v) w') : o.wp P a w K Q := by
  obtain ⟨dst, op, type, pos, after, guard⟩ := o
  simp only at ho
  subst ho
  unfold Oper.wp
  rw [execOp_call_go, hargs]
  simp only [Array.empty_append, Array.append_empty]
  have hr : (callFunc f args).run P w = .ok (.enter f args) w := by
    have hn' : ¬ fn.name = "runtime.NumGoroutine" := by simpa using hn
    obtain ⟨bd, hbd⟩ := Option.isSome_iff_exists.1 hb
    simp [callFunc, hf, hn', hbd]
  rw [hr, Oper.upon_enter]
  refine Calls.mono h fun e w' he => ?_
  obtain ⟨v, rfl, hK⟩ := he
  exact hK
theorem Try.parts33 : (Try.prog.info? 33).map (fun i => (i.zero.isSome, i.size)) = some (true, 32) := by kernel_rfl
/-- A slice literal of whole arrays. -/
theorem wp_build33 {o : Oper} {a : Act} {w : World} {K : Act → World → Prop} {Q : Exit → Act → World → Prop} (len : Nat) (parts : Array (Nat × Operand)) (ho : o.op = .buildSlice 57 len parts) (vs : List Value)
    (hp : (parts.map fun (i, x) => (i, a.eval x)).toList = (vs.zipIdx 0).map fun x => (x.2, x.1)) (hl : vs.length = len) (h0 : 0 < len) (hs : len ≤ 1000) (h1 : ∀ v ∈ vs, v.cells.size = 32)
    (h : K (a.put o.dst (.slice (some ⟨w.heap.size, 0, none⟩) len len)) (w.alloc (.cells (vs.flatMap fun v => v.cells.toList).toArray 33))) : o.wp Try.prog a w K Q := by
  have hi := Try.parts33
  cases hie : Try.prog.info? 33 with
  | none => simp [hie] at hi
  | some ie =>
    simp only [hie, Option.map_some, Option.some.injEq, Prod.mk.injEq] at hi
    obtain ⟨z, hz⟩ := Option.isSome_iff_exists.1 hi.1
    refine wp_buildSlice 57 33 len parts ho _ ie z Try.underlying57 hie hz (by rw [hi.2]; omega) (by rw [hi.2]; omega) ?_ h
    rw [hp, hi.2]
    exact Great.fill_whole (by decide) vs _ h1 (by simp [hl])
/-- A new block of sums is a row of one's own. -/
theorem own_new33 {W : World} {B : Nat} (b : Nat) (hb : b ≤ B) (l : List (List Nat)) (hl : ∀ cs ∈ l, cs.length = 32) (hn : l.length ≤ 1000) (cells : Array Value) (hc : cells.toList = l.flatMap u8s) (h : W.heap[B]? = some (.cells cells 33 (0, 0))) :
    W.ownsRow b 33 32 (.slice (some ⟨B, 0, none⟩) l.length l.length) l.length (l.flatMap u8s) := by
  have hlen : ∀ l : List (List Nat), (∀ cs ∈ l, cs.length = 32) → (l.flatMap u8s).length = l.length * 32 := by
    intro l
    induction l with
    | nil => intro _; rfl
    | cons x l ih => intro h; rw [List.flatMap_cons, List.length_append, ih (fun cs hc => h cs (by simp [hc])), u8s_length, h x (by simp), List.length_cons]; omega
  refine ⟨hlen l hl, .inr ⟨B, l.length, cells, rfl, hb, h, Nat.le_refl _, by unfold maxLen; omega, ?_, ?_⟩⟩
  · rw [← Array.length_toList, hc, hlen l hl]
  · rw [hc, ← hlen l hl, List.take_length]
/-- All orders end so: one of the frames f, a world of R. -/
def AtB (f : Nat → Act) (R : World → Prop) : Exit → Act → World → Prop
  | .normal, a, w => (∃ b, a = f b) ∧ R w
  | _, _, _ => False
theorem AtB.use {f : Nat → Act} {R : World → Prop} {Q : Exit → Act → World → Prop} (h : ∀ b w, R w → Q .normal (f b) w) : ∀ e a w, AtB f R e a w → Q e a w := by
  intro e a w h1
  cases e with
  | normal => obtain ⟨⟨b, rfl⟩, h2⟩ := h1; exact h b w h2
  | _ => exact h1.elim
theorem zig_lt (k : Int) (hk : (Lit.int .i64 k).wf = true) : zig k < 18446744073709551616 := by
  have h1 : IntKind.i64.min ≤ k ∧ k ≤ 9223372036854775807 := by simpa [Lit.wf] using hk
  have h2 : -9223372036854775808 ≤ k ∧ k ≤ 9223372036854775807 := h1
  rw [zig]
  split <;> omega
theorem sum32_lt (s : ByteArray) : ∀ x ∈ sum32 s, x < 256 := by
  intro x hx
  rw [sum32] at hx
  simp only [List.mem_append, List.mem_replicate] at hx
  rcases hx with hx | ⟨_, rfl⟩
  · exact nb_lt s x (List.mem_of_mem_take hx)
  · decide
theorem num_2 : num 2 = [2] := by simp [num, hi]
theorem conv33 {W : World} {q : Nat} (cs : List Nat) (hc : cs.length = 32) (hlt : ∀ x ∈ cs, x < 256) {V : Array Value} (hV : V = (u8s cs).toArray) (h : W.heap[q]? = some (.cells V 33 (0, 0))) : (convert 35 9 (.slice (some ⟨q, 0, none⟩) 32 32)).run Try.prog W = .ok (.string (bstr cs)) W := by
  rw [run_convert_bytes_arg W 35 5 Try.underlying35 Try.underlying5 q 0 32 32 (cs.map fun (x : Nat) => (x : Int)) (by simp [hc]) (fun i hi => by
    rw [Nat.zero_add, blk_cell h, hV]
    have hi' : i < cs.length := by omega
    simp [u8s, List.getD, List.getElem?_eq_getElem hi']) 9 Try.underlying9]
  have h1 := strOfNums_nb (bstr cs)
  rw [nb_bstr cs hlt] at h1
  rw [h1]
/-- What the region's loads find, whatever a Writer's call has turned. -/
def PS (w : World) (ga gb : Nat) (A B : Array Value) (W : World) : Prop := W.heap[ga]? = some (.cells A 33 (0, 0)) ∧ W.heap[gb]? = some (.cells B 33 (0, 0)) ∧ Below w.heap.size w W
theorem PS.belowC {w : World} {ga gb : Nat} {A B : Array Value} {W W' : World} (h : PS w ga gb A B W) (hb : Below W.heap.size W W') : PS w ga gb A B W' := ⟨(Turn.toNope hb).blk h.1 id, (Turn.toNope hb).blk h.2.1 id, ((Turn.ofBelow h.2.2 Nope).below hb).nopeBelow⟩
theorem PS.all {w : World} {ga gb : Nat} {A B : Array Value} {W : World} (h : PS w ga gb A B W) : PS w ga gb A B W ∧ W.rangeAt ga 0 A.toList ∧ W.rangeAt gb 0 B.toList :=
  ⟨h, fun j v hv => by rw [Nat.zero_add, blk_cell h.1]; simpa using hv, fun j v hv => by rw [Nat.zero_add, blk_cell h.2.1]; simpa using hv⟩
theorem PS.call {w : World} {ga gb : Nat} {A B : Array Value} {W W' : World} (h : PS w ga gb A B W ∧ W.rangeAt ga 0 A.toList ∧ W.rangeAt gb 0 B.toList) (hk : Kept2 W W') (hb : Below w.heap.size W W') : PS w ga gb A B W' ∧ W'.rangeAt ga 0 A.toList ∧ W'.rangeAt gb 0 B.toList :=
  PS.all ⟨hk _ _ _ (by decide) (by decide) h.1.1, hk _ _ _ (by decide) (by decide) h.1.2.1, h.1.2.2.trans hb⟩
theorem PS.alloc {w : World} {ga gb : Nat} {A B : Array Value} {W : World} (h : PS w ga gb A B W ∧ W.rangeAt ga 0 A.toList ∧ W.rangeAt gb 0 B.toList) (o : Obj) : PS w ga gb A B (W.alloc o) ∧ (W.alloc o).rangeAt ga 0 A.toList ∧ (W.alloc o).rangeAt gb 0 B.toList :=
  PS.all ⟨blk_alloc h.1.1 _, blk_alloc h.1.2.1 _, ((Turn.ofBelow h.1.2.2 Nope).alloc o).nopeBelow⟩
theorem two_sums {w w1 : World} (ht : Turn Nope w w1) (A B : Array Value) (Y : World := (((w1.alloc (.cells Z32 33)).alloc (.cells Z32 33)).setRow w1.heap.size A).setRow (w1.heap.size + 1) B) (hY : Y = (((w1.alloc (.cells Z32 33)).alloc (.cells Z32 33)).setRow w1.heap.size A).setRow (w1.heap.size + 1) B := by rfl) :
    Y.heap[w1.heap.size]? = some (.cells A 33 (0, 0)) ∧ Y.heap[w1.heap.size + 1]? = some (.cells B 33 (0, 0)) ∧ w.heap.size ≤ w1.heap.size ∧ w.heap.size ≤ w1.heap.size + 1 ∧ Turn Nope w Y := by
  subst hY
  have h1 := setRow_heap ((w1.alloc (.cells Z32 33)).alloc (.cells Z32 33)) w1.heap.size Z32 A 33 (0, 0) (blk_alloc (blk_new w1 _) _)
  have h2 : ((w1.alloc (.cells Z32 33)).alloc (.cells Z32 33)).heap[w1.heap.size + 1]? = some (.cells Z32 33 (0, 0)) := by
    have := blk_new (w1.alloc (.cells Z32 33)) (.cells Z32 33); rw [show (w1.alloc (.cells Z32 33)).heap.size = w1.heap.size + 1 by simp] at this; exact this
  have hz := ht.size
  refine ⟨(setRow_other _ _ _ _ (by omega)).trans h1, setRow_heap _ _ Z32 B 33 (0, 0) ((setRow_other _ _ _ _ (by omega)).trans h2), hz, by omega, ?_⟩
  have h3 := below_setRow (below_setRow (((ht.alloc (.cells Z32 33)).alloc (.cells Z32 33)).nopeBelow) hz A) (show w.heap.size ≤ w1.heap.size + 1 by omega) B
  exact Turn.ofBelow h3 _
set_option maxRecDepth 8000 in
set_option maxHeartbeats 4000000 in
theorem puts_any (n : Nat) (hn : n < 18446744073709551616) (k : Int) (hk : (Lit.int .i64 k).wf = true) (s a b : ByteArray) (w : World) : Calls Try.prog 4 #[.int .u64 (n : Int), .int .i64 k, .string s, .string a, .string b] w fun e w' => e = .returned (.bool true) ∧ Below w.heap.size w w' := by
  obtain ⟨c, hcut, hc⟩ := cut_some s 60
  have HCUT := Lib.hid hcut
  have HC := Lib.hid hc
  clear hcut hc
  obtain ⟨A, hA⟩ : ∃ V, V = (u8s (sum32 a)).toArray := ⟨_, rfl⟩
  obtain ⟨B, hB⟩ : ∃ V, V = (u8s (sum32 b)).toArray := ⟨_, rfl⟩
  have HA := Lib.hid hA
  have HBB := Lib.hid hB
  have has : A.size = 32 := by rw [hA]; simp [u8s_length, sum32_length]
  have hbs : B.size = 32 := by rw [hB]; simp [u8s_length, sum32_length]
  have HEA : Hid (arrV (sum32 a) = .agg A) := by show _ = _; rw [hA]; rfl
  have HEB : Hid (arrV (sum32 b) = .agg B) := by show _ = _; rw [hB]; rfl
  have HA1 := Lib.hid (show ∀ v ∈ A.toList, v.oneCell' = true by rw [hA]; intro u hu; simp [u8s] at hu; obtain ⟨x, _, rfl⟩ := hu; rfl)
  have HB1 := Lib.hid (show ∀ v ∈ B.toList, v.oneCell' = true by rw [hB]; intro u hu; simp [u8s] at hu; obtain ⟨x, _, rfl⟩ := hu; rfl)
  clear hA hB
  go_enter Try.func4, Try.ntmps4
  go_upto_region 4 with (first
    | (go_at_call 7; refine (hindsightlaw01_Cut.calls s 60 _ _ HCUT.out).mono ?_; rintro e w1 ⟨rfl, hd⟩; have HT := Lib.hid (Turn.ofBelow hd.below Nope); clear hd)
    | (go_at_call 14; refine (lsum_any _ _).mono ?_; rintro e w1 ⟨rfl, hb⟩; have HT := Lib.hid (HT.out.below hb); clear hb; first | rw [HEA.out] | rw [HEB.out])
    | (refine wpList_store33 rfl _ _ rfl w1.heap.size Z32 A rfl rfl (blk_alloc (blk_new w1 _) _) Z32_size has HA1.out ?_)
    | (refine wpList_store33 rfl _ _ rfl (w1.heap.size + 1) Z32 B rfl rfl ((setRow_other _ _ _ _ (by omega)).trans (by have := blk_new (w1.alloc (.cells Z32 33)) (.cells Z32 33); rw [show (w1.alloc (.cells Z32 33)).heap.size = w1.heap.size + 1 by simp] at this; exact this)) Z32_size hbs HB1.out ?_
       have HSB := Lib.hid (two_sums HT.out A B)))
  obtain ⟨wx, hX⟩ : ∃ wx, wx = (((w1.alloc (.cells #[.int .u8 0, .int .u8 0, .int .u8 0, .int .u8 0, .int .u8 0, .int .u8 0, .int .u8 0, .int .u8 0, .int .u8 0, .int .u8 0, .int .u8 0, .int .u8 0, .int .u8 0, .int .u8 0, .int .u8 0, .int .u8 0, .int .u8 0, .int .u8 0, .int .u8 0, .int .u8 0, .int .u8 0, .int .u8 0, .int .u8 0, .int .u8 0, .int .u8 0, .int .u8 0, .int .u8 0, .int .u8 0, .int .u8 0, .int .u8 0, .int .u8 0, .int .u8 0] 33)).alloc (.cells #[.int .u8 0, .int .u8 0, .int .u8 0, .int .u8 0, .int .u8 0, .int .u8 0, .int .u8 0, .int .u8 0, .int .u8 0, .int .u8 0, .int .u8 0, .int .u8 0, .int .u8 0, .int .u8 0, .int .u8 0, .int .u8 0, .int .u8 0, .int .u8 0, .int .u8 0, .int .u8 0, .int .u8 0, .int .u8 0, .int .u8 0, .int .u8 0, .int .u8 0, .int .u8 0, .int .u8 0, .int .u8 0, .int .u8 0, .int .u8 0, .int .u8 0, .int .u8 0] 33)).setRow w1.heap.size A).setRow (w1.heap.size + 1) B := ⟨_, rfl⟩
  have HSZ : Hid (wx.heap.size = w1.heap.size + 1 + 1) := by show _ = _; rw [hX]; simp
  rw [← hX, ← HSZ.out]
  obtain ⟨ga, gb, HS, HGA, HGB⟩ : ∃ ga gb, Hid (wx.heap[ga]? = some (.cells A 33 (0, 0)) ∧ wx.heap[gb]? = some (.cells B 33 (0, 0)) ∧ Turn Nope w wx) ∧ Hid (w1.heap.size = ga) ∧ Hid (w1.heap.size + 1 = gb) := ⟨_, _, ⟨by rw [hX]; exact HSB.out.1, by rw [hX]; exact HSB.out.2.1, by rw [hX]; exact HSB.out.2.2.2.2⟩, rfl, rfl⟩
  rw [HGB.out, HGA.out]
  clear hX HSB HGA HGB HSZ
  have HW0 := Lib.hid (WrB.new wx w.heap.size HS.out.2.2.size)
  have HB0 := Lib.hid (HS.out.2.2.alloc (.cells #[.slice none 0 0] 37)).nopeBelow
  have HK0 : Hid ((wx.alloc (.cells #[.slice none 0 0] 37)).heap[ga]? = some (.cells A 33 (0, 0)) ∧ (wx.alloc (.cells #[.slice none 0 0] 37)).heap[gb]? = some (.cells B 33 (0, 0))) := ⟨blk_alloc HS.out.1 _, blk_alloc HS.out.2.1 _⟩
  generalize wx.alloc (.cells #[.slice none 0 0] 37) = w0 at HW0 HB0 HK0 ⊢
  generalize wx.heap.size = g at HW0 ⊢
  clear HS HT
  have hu33 := Try.underlying33
  have hiA : (Try.prog.info? 33).map (·.size) = some A.toList.length := by rw [Array.length_toList, has]; exact Try.info33
  have hiB : (Try.prog.info? 33).map (·.size) = some B.toList.length := by rw [Array.length_toList, hbs]; exact Try.info33
  have HS0 := Lib.hid (PS.all (w := w) (W := w0.drew) ⟨blk_drew HK0.out.1, blk_drew HK0.out.2, (Turn.ofBelow HB0.out Nope).drew.nopeBelow⟩)
  clear HB0 HK0
  have HL : Hid ((num n).length ≤ 10 ∧ (num (zig k)).length ≤ 10 ∧ (num c.size).length ≤ 10 ∧ c.size ≤ 60) := ⟨num_le n hn, num_le _ (zig_lt k hk), num_le _ (by have := HC.out; omega), HC.out⟩
  apply Code.wp_mono (Q := AtB (fun sb => { tmps := #[.int .u64 (n : Int), .int .i64 k, .string c, .string a, .string b, undef, undef, undef, undef, undef, .bool false, .pointer (some ⟨ga, 0, none⟩), .pointer (some ⟨gb, 0, none⟩), .pointer (some ⟨g, 0, none⟩), .string s, .string c, .string a, .agg A, .string b, .agg B, .int .u64 (n : Int), .pointer (some ⟨g, 0, none⟩), .int .i64 k, .pointer (some ⟨g, 0, none⟩), .string c, .pointer (some ⟨g, 0, none⟩), .agg A, .pointer (some ⟨g, 0, none⟩), .agg A, .agg B, .slice (some ⟨sb, 0, none⟩) 2 2, .pointer (some ⟨g, 0, none⟩), undef, undef, undef, undef, undef, undef, undef, undef, undef, undef, undef, undef, undef, undef, undef, undef, undef, undef, undef, undef, undef, undef, undef], defers := [] }) (fun W => PS w ga gb A B W ∧ WrB W w.heap.size g ([] ++ num n ++ num (zig k) ++ (num c.size ++ nb c) ++ sum32 a ++ (num [sum32 a, sum32 b].length ++ [sum32 a, sum32 b].flatten))))
  rotate_left
  · refine wp_region_held_drew (S := fun W => PS w ga gb A B W ∧ W.rangeAt ga 0 A.toList ∧ W.rangeAt gb 0 B.toList) (by kernel_rfl) HS0.out (fun hHeld => ?_)
    refine wpAnyH_take (i := 0) (v := .int .u64 (n : Int)) (by simp only [List.getElem?_toArray, List.getElem?_cons_succ, List.getElem?_cons_zero]; rfl) (by kernel_rfl) (by kernel_rfl) (by kernel_rfl) (by intro _ _ _ h; exact h) (Or.inl ⟨by rfl, fun w hSw => by rfl⟩) hHeld ?_
    refine wpAnyH_take (i := 2) (v := .int .i64 k) (by simp only [List.getElem?_toArray, List.getElem?_cons_succ, List.getElem?_cons_zero]; rfl) (by kernel_rfl) (by kernel_rfl) (by kernel_rfl) (by intro _ _ _ h; exact h) (Or.inl ⟨by rfl, fun w hSw => by rfl⟩) hHeld ?_
    refine wpAnyH_take (i := 4) (v := .string c) (by simp only [List.getElem?_toArray, List.getElem?_cons_succ, List.getElem?_cons_zero]; rfl) (by kernel_rfl) (by kernel_rfl) (by kernel_rfl) (by intro _ _ _ h; exact h) (Or.inl ⟨by rfl, fun w hSw => by rfl⟩) hHeld ?_
    simp only [Act.put, List.setIfInBounds_toArray, List.set_cons_zero, List.set_cons_succ]
    refine wpAnyH_take (i := 6) (by simp only [List.getElem?_toArray, List.getElem?_cons_succ, List.getElem?_cons_zero]; rfl) (by kernel_rfl) (by kernel_rfl) (by kernel_rfl) (by intro _ _ _ h; exact h) (by exact yieldsIf_load_mid (by rfl) _ _ rfl _ _ rfl A.toList _ (fun w h => h.2.1) hu33 rfl hiA) hHeld ?_
    refine wpAnyH_take (i := 8) (by simp only [List.getElem?_toArray, List.getElem?_cons_succ, List.getElem?_cons_zero]; rfl) (by kernel_rfl) (by kernel_rfl) (by kernel_rfl) (by intro _ _ _ h; exact h) (by exact yieldsIf_load_mid (by rfl) _ _ rfl _ _ rfl A.toList _ (fun w h => h.2.1) hu33 rfl hiA) hHeld ?_
    refine wpAnyH_take (i := 9) (by simp only [List.getElem?_toArray, List.getElem?_cons_succ, List.getElem?_cons_zero]; rfl) (by kernel_rfl) (by kernel_rfl) (by kernel_rfl) (by intro _ _ _ h; exact h) (by exact yieldsIf_load_mid (by rfl) _ _ rfl _ _ rfl B.toList _ (fun w h => h.2.2) hu33 rfl hiB) hHeld ?_
    simp only [Act.put, List.setIfInBounds_toArray, List.set_cons_zero, List.set_cons_succ]
    have HLL := Lib.hid (show ∀ cs ∈ [sum32 a, sum32 b], cs.length = 32 by intro cs hc; simp at hc; rcases hc with rfl | rfl <;> exact sum32_length _)
    have HCC : Hid (((List.flatMap (fun v => v.cells.toList) [Value.agg A, Value.agg B]).toArray).toList = [sum32 a, sum32 b].flatMap u8s) := by show _ = _; rw [HA.out, HBB.out]; simp [Value.cells]
    refine wpAnyH_ready (rs := [1, 10]) (by kernel_rfl) (by simp) (AllReadyH.cons (by simp only [List.getElem?_toArray, List.getElem?_cons_succ, List.getElem?_cons_zero]; rfl) (fun K hK => ?_) (AllReadyH.cons (by simp only [List.getElem?_toArray, List.getElem?_cons_succ, List.getElem?_cons_zero]; rfl) (fun K hK => ?_) AllReadyH.nil))
    · rw [if_pos (by rfl)]
      refine step_go Try.func15 (by kernel_rfl) (by kernel_rfl) rfl #[.pointer (some ⟨g, 0, none⟩), .int .u64 (n : Int)] (by simp only [List.map_toArray, List.map_cons, List.map_nil]; rfl) ((num_mine n hn _ (HW0.out.nope (by repeat (first | exact Turn.refl _ _ | refine Turn.drew ?_ | refine Turn.alloc ?_ _))) (by decide)).mono ?_)
      rintro e w15 ⟨rfl, hw, hb, hk⟩
      refine ⟨_, rfl, hK.out _ _ (PS.call hHeld hk hb) (fun hHeld => ?_)⟩
      have HW15 := Lib.hid hw
      have HK15 := Lib.hid hk
      clear hw hb hk hK K
      simp only [Act.put, List.setIfInBounds_toArray, List.set_cons_zero, List.set_cons_succ]
      refine wpAnyH_ready (rs := [3, 10]) (by kernel_rfl) (by simp) (AllReadyH.cons (by simp only [List.getElem?_toArray, List.getElem?_cons_succ, List.getElem?_cons_zero]; rfl) (fun K hK => ?_) (AllReadyH.cons (by simp only [List.getElem?_toArray, List.getElem?_cons_succ, List.getElem?_cons_zero]; rfl) (fun K hK => ?_) AllReadyH.nil))
      · rw [if_pos (by rfl)]
        refine step_go Try.func16 (by kernel_rfl) (by kernel_rfl) rfl #[.pointer (some ⟨g, 0, none⟩), .int .i64 k] (by simp only [List.map_toArray, List.map_cons, List.map_nil]; rfl) ((int_mine k hk _ (HW15.out.nope (by repeat (first | exact Turn.refl _ _ | refine Turn.drew ?_ | refine Turn.alloc ?_ _))) (by have := HL.out; simp; omega)).mono ?_)
        rintro e w16 ⟨rfl, hw, hb, hk⟩
        refine ⟨_, rfl, hK.out _ _ (PS.call hHeld hk hb) (fun hHeld => ?_)⟩
        have HW16 := Lib.hid hw
        have HK16 := Lib.hid hk
        clear hw hb hk hK K
        simp only [Act.put, List.setIfInBounds_toArray, List.set_cons_zero, List.set_cons_succ]
        refine wpAnyH_ready (rs := [5, 10]) (by kernel_rfl) (by simp) (AllReadyH.cons (by simp only [List.getElem?_toArray, List.getElem?_cons_succ, List.getElem?_cons_zero]; rfl) (fun K hK => ?_) (AllReadyH.cons (by simp only [List.getElem?_toArray, List.getElem?_cons_succ, List.getElem?_cons_zero]; rfl) (fun K hK => ?_) AllReadyH.nil))
        · rw [if_pos (by rfl)]
          refine step_go Try.func17 (by kernel_rfl) (by kernel_rfl) rfl #[.pointer (some ⟨g, 0, none⟩), .string c] (by simp only [List.map_toArray, List.map_cons, List.map_nil]; rfl) ((str_mine c (by have := HL.out; omega) _ (HW16.out.nope (by repeat (first | exact Turn.refl _ _ | refine Turn.drew ?_ | refine Turn.alloc ?_ _))) (by have := HL.out; simp; omega)).mono ?_)
          rintro e w17 ⟨rfl, hw, hb, hk⟩
          refine ⟨_, rfl, hK.out _ _ (PS.call hHeld hk hb) (fun hHeld => ?_)⟩
          have HW17 := Lib.hid hw
          have HK17 := Lib.hid hk
          clear hw hb hk hK K
          simp only [Act.put, List.setIfInBounds_toArray, List.set_cons_zero, List.set_cons_succ]
          refine wpAnyH_ready (rs := [7, 10]) (by kernel_rfl) (by simp) (AllReadyH.cons (by simp only [List.getElem?_toArray, List.getElem?_cons_succ, List.getElem?_cons_zero]; rfl) (fun K hK => ?_) (AllReadyH.cons (by simp only [List.getElem?_toArray, List.getElem?_cons_succ, List.getElem?_cons_zero]; rfl) (fun K hK => ?_) AllReadyH.nil))
          · rw [if_pos (by rfl)]
            have hsm := sum_mine (sum32 a) (sum32_length a) _ (HW17.out.nope (w' := w17) (by repeat (first | exact Turn.refl _ _ | refine Turn.drew ?_ | refine Turn.alloc ?_ _))) (by have := HL.out; have := nb_length c; simp; omega)
            rw [HEA.out] at hsm
            refine step_go Try.func18 (by kernel_rfl) (by kernel_rfl) rfl #[.pointer (some ⟨g, 0, none⟩), .agg A] (by simp only [List.map_toArray, List.map_cons, List.map_nil]; rfl) ((hsm).mono ?_)
            rintro e w18 ⟨rfl, hw, hb, hk⟩
            refine ⟨_, rfl, hK.out _ _ (PS.call hHeld hk hb) (fun hHeld => ?_)⟩
            have HW18 := Lib.hid hw
            have HK18 := Lib.hid hk
            clear hw hb hk hK K
            simp only [Act.put, List.setIfInBounds_toArray, List.set_cons_zero, List.set_cons_succ]
            refine wpAnyH_ready (rs := [10]) (by kernel_rfl) (by simp) (AllReadyH.cons (by simp only [List.getElem?_toArray, List.getElem?_cons_succ, List.getElem?_cons_zero]; rfl) (fun K hK => ?_) AllReadyH.nil)
            · rw [if_pos (by rfl)]
              refine wp_build33 2 _ rfl [.agg A, .agg B] (by simp only [List.map_toArray, List.map_cons, List.map_nil]; rfl) rfl (by decide) (by decide) (by intro v hv; simp at hv; rcases hv with rfl | rfl; exact has; exact hbs) ?_
              refine hK.out _ _ (PS.alloc hHeld _) (fun hHeld => ?_)
              clear hK K
              simp only [Act.put, List.setIfInBounds_toArray, List.set_cons_zero, List.set_cons_succ]
              refine wpAnyH_ready (rs := [11]) (by kernel_rfl) (by simp) (AllReadyH.cons (by simp only [List.getElem?_toArray, List.getElem?_cons_succ, List.getElem?_cons_zero]; rfl) (fun K hK => ?_) AllReadyH.nil)
              · rw [if_pos (by rfl)]
                refine step_go Try.func19 (by kernel_rfl) (by kernel_rfl) rfl #[.pointer (some ⟨g, 0, none⟩), .slice (some ⟨w18.heap.size, 0, none⟩) 2 2] (by simp only [List.map_toArray, List.map_cons, List.map_nil]; rfl) ((sums_mine [sum32 a, sum32 b] HLL.out (by simp) 0 (.slice (some ⟨w18.heap.size, 0, none⟩) 2 2) _ (own_new33 0 (Nat.zero_le _) [sum32 a, sum32 b] HLL.out (by simp) _ HCC.out (blk_new w18 _)) (HW18.out.nope (by repeat (first | exact Turn.refl _ _ | refine Turn.drew ?_ | refine Turn.alloc ?_ _))) (by have := HL.out; have := nb_length c; have := sum32_length a; simp; omega)).mono ?_)
                rintro e w19 ⟨rfl, hw, hb, hk⟩
                refine ⟨_, rfl, hK.out _ _ (PS.call hHeld hk hb) (fun hHeld => ?_)⟩
                have HW19 := Lib.hid hw
                have HK19 := Lib.hid hk
                clear hw hb hk hK K
                simp only [Act.put, List.setIfInBounds_toArray, List.set_cons_zero, List.set_cons_succ]
                refine wpAnyH_done (by kernel_rfl) ?_ _
                exact ⟨⟨_, rfl⟩, hHeld.1, HW19.out⟩
          · rw [if_pos (by rfl)]
            refine wp_build33 2 _ rfl [.agg A, .agg B] (by simp only [List.map_toArray, List.map_cons, List.map_nil]; rfl) rfl (by decide) (by decide) (by intro v hv; simp at hv; rcases hv with rfl | rfl; exact has; exact hbs) ?_
            refine hK.out _ _ (PS.alloc hHeld _) (fun hHeld => ?_)
            clear hK K
            simp only [Act.put, List.setIfInBounds_toArray, List.set_cons_zero, List.set_cons_succ]
            refine wpAnyH_ready (rs := [7]) (by kernel_rfl) (by simp) (AllReadyH.cons (by simp only [List.getElem?_toArray, List.getElem?_cons_succ, List.getElem?_cons_zero]; rfl) (fun K hK => ?_) AllReadyH.nil)
            · rw [if_pos (by rfl)]
              have hsm := sum_mine (sum32 a) (sum32_length a) _ (HW17.out.nope (w' := w17.alloc (.cells (List.flatMap (fun v => v.cells.toList) [Value.agg A, Value.agg B]).toArray 33)) (by repeat (first | exact Turn.refl _ _ | refine Turn.drew ?_ | refine Turn.alloc ?_ _))) (by have := HL.out; have := nb_length c; simp; omega)
              rw [HEA.out] at hsm
              refine step_go Try.func18 (by kernel_rfl) (by kernel_rfl) rfl #[.pointer (some ⟨g, 0, none⟩), .agg A] (by simp only [List.map_toArray, List.map_cons, List.map_nil]; rfl) ((hsm).mono ?_)
              rintro e w18 ⟨rfl, hw, hb, hk⟩
              refine ⟨_, rfl, hK.out _ _ (PS.call hHeld hk hb) (fun hHeld => ?_)⟩
              have HW18 := Lib.hid hw
              have HK18 := Lib.hid hk
              clear hw hb hk hK K
              simp only [Act.put, List.setIfInBounds_toArray, List.set_cons_zero, List.set_cons_succ]
              refine wpAnyH_ready (rs := [11]) (by kernel_rfl) (by simp) (AllReadyH.cons (by simp only [List.getElem?_toArray, List.getElem?_cons_succ, List.getElem?_cons_zero]; rfl) (fun K hK => ?_) AllReadyH.nil)
              · rw [if_pos (by rfl)]
                refine step_go Try.func19 (by kernel_rfl) (by kernel_rfl) rfl #[.pointer (some ⟨g, 0, none⟩), .slice (some ⟨w17.heap.size, 0, none⟩) 2 2] (by simp only [List.map_toArray, List.map_cons, List.map_nil]; rfl) ((sums_mine [sum32 a, sum32 b] HLL.out (by simp) 0 (.slice (some ⟨w17.heap.size, 0, none⟩) 2 2) _ (own_new33 0 (Nat.zero_le _) [sum32 a, sum32 b] HLL.out (by simp) _ HCC.out (HK18.out _ _ _ (by decide) (by decide) (blk_new w17 _))) (HW18.out.nope (by repeat (first | exact Turn.refl _ _ | refine Turn.drew ?_ | refine Turn.alloc ?_ _))) (by have := HL.out; have := nb_length c; have := sum32_length a; simp; omega)).mono ?_)
                rintro e w19 ⟨rfl, hw, hb, hk⟩
                refine ⟨_, rfl, hK.out _ _ (PS.call hHeld hk hb) (fun hHeld => ?_)⟩
                have HW19 := Lib.hid hw
                have HK19 := Lib.hid hk
                clear hw hb hk hK K
                simp only [Act.put, List.setIfInBounds_toArray, List.set_cons_zero, List.set_cons_succ]
                refine wpAnyH_done (by kernel_rfl) ?_ _
                exact ⟨⟨_, rfl⟩, hHeld.1, HW19.out⟩
        · rw [if_pos (by rfl)]
          refine wp_build33 2 _ rfl [.agg A, .agg B] (by simp only [List.map_toArray, List.map_cons, List.map_nil]; rfl) rfl (by decide) (by decide) (by intro v hv; simp at hv; rcases hv with rfl | rfl; exact has; exact hbs) ?_
          refine hK.out _ _ (PS.alloc hHeld _) (fun hHeld => ?_)
          clear hK K
          simp only [Act.put, List.setIfInBounds_toArray, List.set_cons_zero, List.set_cons_succ]
          refine wpAnyH_ready (rs := [5]) (by kernel_rfl) (by simp) (AllReadyH.cons (by simp only [List.getElem?_toArray, List.getElem?_cons_succ, List.getElem?_cons_zero]; rfl) (fun K hK => ?_) AllReadyH.nil)
          · rw [if_pos (by rfl)]
            refine step_go Try.func17 (by kernel_rfl) (by kernel_rfl) rfl #[.pointer (some ⟨g, 0, none⟩), .string c] (by simp only [List.map_toArray, List.map_cons, List.map_nil]; rfl) ((str_mine c (by have := HL.out; omega) _ (HW16.out.nope (by repeat (first | exact Turn.refl _ _ | refine Turn.drew ?_ | refine Turn.alloc ?_ _))) (by have := HL.out; simp; omega)).mono ?_)
            rintro e w17 ⟨rfl, hw, hb, hk⟩
            refine ⟨_, rfl, hK.out _ _ (PS.call hHeld hk hb) (fun hHeld => ?_)⟩
            have HW17 := Lib.hid hw
            have HK17 := Lib.hid hk
            clear hw hb hk hK K
            simp only [Act.put, List.setIfInBounds_toArray, List.set_cons_zero, List.set_cons_succ]
            refine wpAnyH_ready (rs := [7]) (by kernel_rfl) (by simp) (AllReadyH.cons (by simp only [List.getElem?_toArray, List.getElem?_cons_succ, List.getElem?_cons_zero]; rfl) (fun K hK => ?_) AllReadyH.nil)
            · rw [if_pos (by rfl)]
              have hsm := sum_mine (sum32 a) (sum32_length a) _ (HW17.out.nope (w' := w17) (by repeat (first | exact Turn.refl _ _ | refine Turn.drew ?_ | refine Turn.alloc ?_ _))) (by have := HL.out; have := nb_length c; simp; omega)
              rw [HEA.out] at hsm
              refine step_go Try.func18 (by kernel_rfl) (by kernel_rfl) rfl #[.pointer (some ⟨g, 0, none⟩), .agg A] (by simp only [List.map_toArray, List.map_cons, List.map_nil]; rfl) ((hsm).mono ?_)
              rintro e w18 ⟨rfl, hw, hb, hk⟩
              refine ⟨_, rfl, hK.out _ _ (PS.call hHeld hk hb) (fun hHeld => ?_)⟩
              have HW18 := Lib.hid hw
              have HK18 := Lib.hid hk
              clear hw hb hk hK K
              simp only [Act.put, List.setIfInBounds_toArray, List.set_cons_zero, List.set_cons_succ]
              refine wpAnyH_ready (rs := [11]) (by kernel_rfl) (by simp) (AllReadyH.cons (by simp only [List.getElem?_toArray, List.getElem?_cons_succ, List.getElem?_cons_zero]; rfl) (fun K hK => ?_) AllReadyH.nil)
              · rw [if_pos (by rfl)]
                refine step_go Try.func19 (by kernel_rfl) (by kernel_rfl) rfl #[.pointer (some ⟨g, 0, none⟩), .slice (some ⟨w16.heap.size, 0, none⟩) 2 2] (by simp only [List.map_toArray, List.map_cons, List.map_nil]; rfl) ((sums_mine [sum32 a, sum32 b] HLL.out (by simp) 0 (.slice (some ⟨w16.heap.size, 0, none⟩) 2 2) _ (own_new33 0 (Nat.zero_le _) [sum32 a, sum32 b] HLL.out (by simp) _ HCC.out (HK18.out _ _ _ (by decide) (by decide) (HK17.out _ _ _ (by decide) (by decide) (blk_new w16 _)))) (HW18.out.nope (by repeat (first | exact Turn.refl _ _ | refine Turn.drew ?_ | refine Turn.alloc ?_ _))) (by have := HL.out; have := nb_length c; have := sum32_length a; simp; omega)).mono ?_)
                rintro e w19 ⟨rfl, hw, hb, hk⟩
                refine ⟨_, rfl, hK.out _ _ (PS.call hHeld hk hb) (fun hHeld => ?_)⟩
                have HW19 := Lib.hid hw
                have HK19 := Lib.hid hk
                clear hw hb hk hK K
                simp only [Act.put, List.setIfInBounds_toArray, List.set_cons_zero, List.set_cons_succ]
                refine wpAnyH_done (by kernel_rfl) ?_ _
                exact ⟨⟨_, rfl⟩, hHeld.1, HW19.out⟩
      · rw [if_pos (by rfl)]
        refine wp_build33 2 _ rfl [.agg A, .agg B] (by simp only [List.map_toArray, List.map_cons, List.map_nil]; rfl) rfl (by decide) (by decide) (by intro v hv; simp at hv; rcases hv with rfl | rfl; exact has; exact hbs) ?_
        refine hK.out _ _ (PS.alloc hHeld _) (fun hHeld => ?_)
        clear hK K
        simp only [Act.put, List.setIfInBounds_toArray, List.set_cons_zero, List.set_cons_succ]
        refine wpAnyH_ready (rs := [3]) (by kernel_rfl) (by simp) (AllReadyH.cons (by simp only [List.getElem?_toArray, List.getElem?_cons_succ, List.getElem?_cons_zero]; rfl) (fun K hK => ?_) AllReadyH.nil)
        · rw [if_pos (by rfl)]
          refine step_go Try.func16 (by kernel_rfl) (by kernel_rfl) rfl #[.pointer (some ⟨g, 0, none⟩), .int .i64 k] (by simp only [List.map_toArray, List.map_cons, List.map_nil]; rfl) ((int_mine k hk _ (HW15.out.nope (by repeat (first | exact Turn.refl _ _ | refine Turn.drew ?_ | refine Turn.alloc ?_ _))) (by have := HL.out; simp; omega)).mono ?_)
          rintro e w16 ⟨rfl, hw, hb, hk⟩
          refine ⟨_, rfl, hK.out _ _ (PS.call hHeld hk hb) (fun hHeld => ?_)⟩
          have HW16 := Lib.hid hw
          have HK16 := Lib.hid hk
          clear hw hb hk hK K
          simp only [Act.put, List.setIfInBounds_toArray, List.set_cons_zero, List.set_cons_succ]
          refine wpAnyH_ready (rs := [5]) (by kernel_rfl) (by simp) (AllReadyH.cons (by simp only [List.getElem?_toArray, List.getElem?_cons_succ, List.getElem?_cons_zero]; rfl) (fun K hK => ?_) AllReadyH.nil)
          · rw [if_pos (by rfl)]
            refine step_go Try.func17 (by kernel_rfl) (by kernel_rfl) rfl #[.pointer (some ⟨g, 0, none⟩), .string c] (by simp only [List.map_toArray, List.map_cons, List.map_nil]; rfl) ((str_mine c (by have := HL.out; omega) _ (HW16.out.nope (by repeat (first | exact Turn.refl _ _ | refine Turn.drew ?_ | refine Turn.alloc ?_ _))) (by have := HL.out; simp; omega)).mono ?_)
            rintro e w17 ⟨rfl, hw, hb, hk⟩
            refine ⟨_, rfl, hK.out _ _ (PS.call hHeld hk hb) (fun hHeld => ?_)⟩
            have HW17 := Lib.hid hw
            have HK17 := Lib.hid hk
            clear hw hb hk hK K
            simp only [Act.put, List.setIfInBounds_toArray, List.set_cons_zero, List.set_cons_succ]
            refine wpAnyH_ready (rs := [7]) (by kernel_rfl) (by simp) (AllReadyH.cons (by simp only [List.getElem?_toArray, List.getElem?_cons_succ, List.getElem?_cons_zero]; rfl) (fun K hK => ?_) AllReadyH.nil)
            · rw [if_pos (by rfl)]
              have hsm := sum_mine (sum32 a) (sum32_length a) _ (HW17.out.nope (w' := w17) (by repeat (first | exact Turn.refl _ _ | refine Turn.drew ?_ | refine Turn.alloc ?_ _))) (by have := HL.out; have := nb_length c; simp; omega)
              rw [HEA.out] at hsm
              refine step_go Try.func18 (by kernel_rfl) (by kernel_rfl) rfl #[.pointer (some ⟨g, 0, none⟩), .agg A] (by simp only [List.map_toArray, List.map_cons, List.map_nil]; rfl) ((hsm).mono ?_)
              rintro e w18 ⟨rfl, hw, hb, hk⟩
              refine ⟨_, rfl, hK.out _ _ (PS.call hHeld hk hb) (fun hHeld => ?_)⟩
              have HW18 := Lib.hid hw
              have HK18 := Lib.hid hk
              clear hw hb hk hK K
              simp only [Act.put, List.setIfInBounds_toArray, List.set_cons_zero, List.set_cons_succ]
              refine wpAnyH_ready (rs := [11]) (by kernel_rfl) (by simp) (AllReadyH.cons (by simp only [List.getElem?_toArray, List.getElem?_cons_succ, List.getElem?_cons_zero]; rfl) (fun K hK => ?_) AllReadyH.nil)
              · rw [if_pos (by rfl)]
                refine step_go Try.func19 (by kernel_rfl) (by kernel_rfl) rfl #[.pointer (some ⟨g, 0, none⟩), .slice (some ⟨w15.heap.size, 0, none⟩) 2 2] (by simp only [List.map_toArray, List.map_cons, List.map_nil]; rfl) ((sums_mine [sum32 a, sum32 b] HLL.out (by simp) 0 (.slice (some ⟨w15.heap.size, 0, none⟩) 2 2) _ (own_new33 0 (Nat.zero_le _) [sum32 a, sum32 b] HLL.out (by simp) _ HCC.out (HK18.out _ _ _ (by decide) (by decide) (HK17.out _ _ _ (by decide) (by decide) (HK16.out _ _ _ (by decide) (by decide) (blk_new w15 _))))) (HW18.out.nope (by repeat (first | exact Turn.refl _ _ | refine Turn.drew ?_ | refine Turn.alloc ?_ _))) (by have := HL.out; have := nb_length c; have := sum32_length a; simp; omega)).mono ?_)
                rintro e w19 ⟨rfl, hw, hb, hk⟩
                refine ⟨_, rfl, hK.out _ _ (PS.call hHeld hk hb) (fun hHeld => ?_)⟩
                have HW19 := Lib.hid hw
                have HK19 := Lib.hid hk
                clear hw hb hk hK K
                simp only [Act.put, List.setIfInBounds_toArray, List.set_cons_zero, List.set_cons_succ]
                refine wpAnyH_done (by kernel_rfl) ?_ _
                exact ⟨⟨_, rfl⟩, hHeld.1, HW19.out⟩
    · rw [if_pos (by rfl)]
      refine wp_build33 2 _ rfl [.agg A, .agg B] (by simp only [List.map_toArray, List.map_cons, List.map_nil]; rfl) rfl (by decide) (by decide) (by intro v hv; simp at hv; rcases hv with rfl | rfl; exact has; exact hbs) ?_
      refine hK.out _ _ (PS.alloc hHeld _) (fun hHeld => ?_)
      clear hK K
      simp only [Act.put, List.setIfInBounds_toArray, List.set_cons_zero, List.set_cons_succ]
      refine wpAnyH_ready (rs := [1]) (by kernel_rfl) (by simp) (AllReadyH.cons (by simp only [List.getElem?_toArray, List.getElem?_cons_succ, List.getElem?_cons_zero]; rfl) (fun K hK => ?_) AllReadyH.nil)
      · rw [if_pos (by rfl)]
        refine step_go Try.func15 (by kernel_rfl) (by kernel_rfl) rfl #[.pointer (some ⟨g, 0, none⟩), .int .u64 (n : Int)] (by simp only [List.map_toArray, List.map_cons, List.map_nil]; rfl) ((num_mine n hn _ (HW0.out.nope (by repeat (first | exact Turn.refl _ _ | refine Turn.drew ?_ | refine Turn.alloc ?_ _))) (by decide)).mono ?_)
        rintro e w15 ⟨rfl, hw, hb, hk⟩
        refine ⟨_, rfl, hK.out _ _ (PS.call hHeld hk hb) (fun hHeld => ?_)⟩
        have HW15 := Lib.hid hw
        have HK15 := Lib.hid hk
        clear hw hb hk hK K
        simp only [Act.put, List.setIfInBounds_toArray, List.set_cons_zero, List.set_cons_succ]
        refine wpAnyH_ready (rs := [3]) (by kernel_rfl) (by simp) (AllReadyH.cons (by simp only [List.getElem?_toArray, List.getElem?_cons_succ, List.getElem?_cons_zero]; rfl) (fun K hK => ?_) AllReadyH.nil)
        · rw [if_pos (by rfl)]
          refine step_go Try.func16 (by kernel_rfl) (by kernel_rfl) rfl #[.pointer (some ⟨g, 0, none⟩), .int .i64 k] (by simp only [List.map_toArray, List.map_cons, List.map_nil]; rfl) ((int_mine k hk _ (HW15.out.nope (by repeat (first | exact Turn.refl _ _ | refine Turn.drew ?_ | refine Turn.alloc ?_ _))) (by have := HL.out; simp; omega)).mono ?_)
          rintro e w16 ⟨rfl, hw, hb, hk⟩
          refine ⟨_, rfl, hK.out _ _ (PS.call hHeld hk hb) (fun hHeld => ?_)⟩
          have HW16 := Lib.hid hw
          have HK16 := Lib.hid hk
          clear hw hb hk hK K
          simp only [Act.put, List.setIfInBounds_toArray, List.set_cons_zero, List.set_cons_succ]
          refine wpAnyH_ready (rs := [5]) (by kernel_rfl) (by simp) (AllReadyH.cons (by simp only [List.getElem?_toArray, List.getElem?_cons_succ, List.getElem?_cons_zero]; rfl) (fun K hK => ?_) AllReadyH.nil)
          · rw [if_pos (by rfl)]
            refine step_go Try.func17 (by kernel_rfl) (by kernel_rfl) rfl #[.pointer (some ⟨g, 0, none⟩), .string c] (by simp only [List.map_toArray, List.map_cons, List.map_nil]; rfl) ((str_mine c (by have := HL.out; omega) _ (HW16.out.nope (by repeat (first | exact Turn.refl _ _ | refine Turn.drew ?_ | refine Turn.alloc ?_ _))) (by have := HL.out; simp; omega)).mono ?_)
            rintro e w17 ⟨rfl, hw, hb, hk⟩
            refine ⟨_, rfl, hK.out _ _ (PS.call hHeld hk hb) (fun hHeld => ?_)⟩
            have HW17 := Lib.hid hw
            have HK17 := Lib.hid hk
            clear hw hb hk hK K
            simp only [Act.put, List.setIfInBounds_toArray, List.set_cons_zero, List.set_cons_succ]
            refine wpAnyH_ready (rs := [7]) (by kernel_rfl) (by simp) (AllReadyH.cons (by simp only [List.getElem?_toArray, List.getElem?_cons_succ, List.getElem?_cons_zero]; rfl) (fun K hK => ?_) AllReadyH.nil)
            · rw [if_pos (by rfl)]
              have hsm := sum_mine (sum32 a) (sum32_length a) _ (HW17.out.nope (w' := w17) (by repeat (first | exact Turn.refl _ _ | refine Turn.drew ?_ | refine Turn.alloc ?_ _))) (by have := HL.out; have := nb_length c; simp; omega)
              rw [HEA.out] at hsm
              refine step_go Try.func18 (by kernel_rfl) (by kernel_rfl) rfl #[.pointer (some ⟨g, 0, none⟩), .agg A] (by simp only [List.map_toArray, List.map_cons, List.map_nil]; rfl) ((hsm).mono ?_)
              rintro e w18 ⟨rfl, hw, hb, hk⟩
              refine ⟨_, rfl, hK.out _ _ (PS.call hHeld hk hb) (fun hHeld => ?_)⟩
              have HW18 := Lib.hid hw
              have HK18 := Lib.hid hk
              clear hw hb hk hK K
              simp only [Act.put, List.setIfInBounds_toArray, List.set_cons_zero, List.set_cons_succ]
              refine wpAnyH_ready (rs := [11]) (by kernel_rfl) (by simp) (AllReadyH.cons (by simp only [List.getElem?_toArray, List.getElem?_cons_succ, List.getElem?_cons_zero]; rfl) (fun K hK => ?_) AllReadyH.nil)
              · rw [if_pos (by rfl)]
                refine step_go Try.func19 (by kernel_rfl) (by kernel_rfl) rfl #[.pointer (some ⟨g, 0, none⟩), .slice (some ⟨w0.heap.size, 0, none⟩) 2 2] (by simp only [List.map_toArray, List.map_cons, List.map_nil]; rfl) ((sums_mine [sum32 a, sum32 b] HLL.out (by simp) 0 (.slice (some ⟨w0.heap.size, 0, none⟩) 2 2) _ (own_new33 0 (Nat.zero_le _) [sum32 a, sum32 b] HLL.out (by simp) _ HCC.out (HK18.out _ _ _ (by decide) (by decide) (HK17.out _ _ _ (by decide) (by decide) (HK16.out _ _ _ (by decide) (by decide) (HK15.out _ _ _ (by decide) (by decide) (blk_new w0 _)))))) (HW18.out.nope (by repeat (first | exact Turn.refl _ _ | refine Turn.drew ?_ | refine Turn.alloc ?_ _))) (by have := HL.out; have := nb_length c; have := sum32_length a; simp; omega)).mono ?_)
                rintro e w19 ⟨rfl, hw, hb, hk⟩
                refine ⟨_, rfl, hK.out _ _ (PS.call hHeld hk hb) (fun hHeld => ?_)⟩
                have HW19 := Lib.hid hw
                have HK19 := Lib.hid hk
                clear hw hb hk hK K
                simp only [Act.put, List.setIfInBounds_toArray, List.set_cons_zero, List.set_cons_succ]
                refine wpAnyH_done (by kernel_rfl) ?_ _
                exact ⟨⟨_, rfl⟩, hHeld.1, HW19.out⟩
  refine AtB.use ?_
  rintro sb w5 ⟨hps, hwr⟩
  obtain ⟨tx, hTX⟩ : ∃ tx, tx = bstr (num n) ++ bstr (num (zig k)) ++ (bstr (num c.size) ++ c) ++ bstr (sum32 a) ++ (⟨#[2]⟩ : ByteArray) ++ bstr (sum32 a) ++ bstr (sum32 b) := ⟨_, rfl⟩
  have hby : nb tx = [] ++ num n ++ num (zig k) ++ (num c.size ++ nb c) ++ sum32 a ++ (num [sum32 a, sum32 b].length ++ [sum32 a, sum32 b].flatten) := by
    rw [hTX]
    simp only [nb_append, nb_bstr _ (num_lt _), nb_bstr _ (sum32_lt _)]
    rw [show [sum32 a, sum32 b].length = 2 from rfl, num_2, show nb (⟨#[2]⟩ : ByteArray) = [2] from rfl]
    simp
  have HPS : Hid (PS w ga gb A B w5.drew) := ⟨blk_drew hps.1, blk_drew hps.2.1, ((Turn.ofBelow hps.2.2 Nope).drew).nopeBelow⟩
  have HWR := Lib.hid (hwr.nope (Turn.refl _ _).drew)
  rw [← hby] at HWR
  obtain ⟨x1, hx1⟩ : ∃ x, bstr (num n) = x := ⟨_, rfl⟩
  obtain ⟨x2, hx2⟩ : ∃ x, bstr (num (zig k)) = x := ⟨_, rfl⟩
  obtain ⟨x3, hx3⟩ : ∃ x, bstr (num c.size) ++ c = x := ⟨_, rfl⟩
  obtain ⟨xa, hxa⟩ : ∃ x, bstr (sum32 a) = x := ⟨_, rfl⟩
  obtain ⟨xb, hxb⟩ : ∃ x, bstr (sum32 b) = x := ⟨_, rfl⟩
  have HSZ : Hid (x1.size ≤ 10 ∧ x2.size ≤ 10 ∧ x3.size ≤ 70 ∧ xa.size = 32 ∧ xb.size = 32) := by
    have h3 := HL.out
    have sa := sum32_length a
    have sb' := sum32_length b
    show _ ∧ _
    rw [← hx1, ← hx2, ← hx3, ← hxa, ← hxb, ByteArray.size_append, ← nb_length, ← nb_length (bstr (num (zig k))), ← nb_length (bstr (num c.size)), ← nb_length (bstr (sum32 a)), ← nb_length (bstr (sum32 b)), nb_bstr _ (num_lt _), nb_bstr _ (num_lt _), nb_bstr _ (num_lt _), nb_bstr _ (sum32_lt _), nb_bstr _ (sum32_lt _)]
    omega
  rw [hx1, hx2, hx3, hxa, hxb] at hTX
  have HX1 := Lib.hid hx1
  have HX2 := Lib.hid hx2
  have HX3 := Lib.hid hx3
  have HXA := Lib.hid hxa
  have HXB := Lib.hid hxb
  have n1 : ¬ (9223372036854775807 < x1.size + x2.size) := by have := HSZ.out; omega
  have n2 : ¬ (9223372036854775807 < x1.size + x2.size + x3.size) := by have := HSZ.out; omega
  have n3 : ¬ (9223372036854775807 < x1.size + x2.size + x3.size + xa.size) := by have := HSZ.out; omega
  have n4 : ¬ (9223372036854775807 < x1.size + x2.size + x3.size + xa.size + 1) := by have := HSZ.out; omega
  have n5 : ¬ (9223372036854775807 < x1.size + x2.size + x3.size + xa.size + 1 + xa.size) := by have := HSZ.out; omega
  have n6 : ¬ (9223372036854775807 < x1.size + x2.size + x3.size + xa.size + 1 + xa.size + xb.size) := by have := HSZ.out; omega
  have HTX := Lib.hid hTX
  clear hx1 hx2 hx3 hxa hxb
  clear hps hwr HS0 hiA hiB hu33 hby hTX
  dsimp only
  go_wp2_with fail
  have CA : ∀ W : World, PS w ga gb A B W → (convert 35 9 (.slice (some ⟨ga, 0, none⟩) 32 32)).run Try.prog W = .ok (.string xa) W := fun W h => by rw [← HXA.out]; exact conv33 _ (sum32_length a) (sum32_lt a) HA.out h.1
  have CB : ∀ W : World, PS w ga gb A B W → (convert 35 9 (.slice (some ⟨gb, 0, none⟩) 32 32)).run Try.prog W = .ok (.string xb) W := fun W h => by rw [← HXB.out]; exact conv33 _ (sum32_length b) (sum32_lt b) HBB.out h.2.1
  go_region_held3 (fun W => PS w ga gb A B W) (first | exact HPS.out | assumption | exact PS.belowC (by assumption) HKc.out)
    (first
      | (go_at_call 9; refine (awake_any _).mono ?_; rintro e w9 ⟨rfl, hb⟩; have HKc := Lib.hid hb; have HW9 := Lib.hid (HWR.out.nope (Turn.toNope hb)); clear hb)
      | (go_at_call 20; refine (text_mine tx _ HW9.out).mono ?_; rintro e w20 ⟨rfl, hw⟩; have HKc := Lib.hid (show Below w9.heap.size w9 w20 by rw [hw]; exact Below.refl _ _); clear hw; rw [HTX.out])
      | (go_at_call 12; refine (refnum_any n hn _).mono ?_; rintro e w12 ⟨rfl, hb⟩; rw [HX1.out]; have HKc := Lib.hid hb; clear hb)
      | (go_at_call 21; refine (refint_any k hk _).mono ?_; rintro e w21 ⟨rfl, hb⟩; rw [HX2.out]; have HKc := Lib.hid hb; clear hb)
      | (go_at_call 22; refine (refstr_any c (by have := HL.out; omega) _).mono ?_; rintro e w22 ⟨rfl, hb⟩; rw [HX3.out]; have HKc := Lib.hid hb; clear hb))
  have HFIN : Hid (PS w ga gb A B w22) := by show PS _ _ _ _ _ _; assumption
  go_wp2_with fail
  go_ret
  exact ⟨rfl, HFIN.out.2.2⟩
theorem puts_walk (n k : Int) (s a b : ByteArray) (w : World) (hn : (Lit.int .u64 n).wf = true) (hk : (Lit.int .i64 k).wf = true) : Calls Try.prog 4 #[.int .u64 n, .int .i64 k, .string s, .string a, .string b] w fun e w' => e = .returned (.bool true) ∧ Below w.heap.size w w' := by
  have h1 : IntKind.u64.min ≤ n ∧ n ≤ IntKind.u64.max := by simpa [Lit.wf] using hn
  have h2 : 0 ≤ n ∧ n ≤ 18446744073709551615 := h1
  obtain ⟨m, rfl⟩ := Int.eq_ofNat_of_zero_le h2.1
  exact puts_any m (by omega) k hk s a b w
end Go.Proofs.Ytiddipimbdffcaa
