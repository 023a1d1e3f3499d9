/- An error stays: the law walked. -/
import Derived.Test.YtiddipimbdffcaaErr
import Derived.Test.YtiddipimbdffcaaAwake
import Derived.Test.YtiddipimbdffcaaOpen
set_option linter.unusedSimpArgs false
set_option linter.unusedVariables false
namespace Go.Proofs.Ytiddipimbdffcaa
open Go.RowKit Go.ChangeShapes Go.WideShapes Go.Deep Go.Lib PWireStays Go.Proofs.YtiddipimbdffcaaW.PrintWords Go.Proofs.YtiddipimbdffcaaW.PrintLast Go.Proofs.YtiddipimbdffcaaW.PrintMore
def TakesIn (w : World) (a : Option Addr) (len : Nat) : Prop := len ≤ maxLen ∧ ∀ i, i < len → ∃ (ad : Addr) (k n : Int), a = some ad ∧ (Lit.int .i64 k).wf = true ∧ (Lit.int .i64 n).wf = true ∧
  w.cell? (ad.add (i * 2)) = some (.int .i64 k) ∧ w.cell? ⟨(ad.add (i * 2)).block, (ad.add (i * 2)).off + 1, none⟩ = some (.int .i64 n)
theorem TakesIn.later {w w' : World} {a : Option Addr} {len : Nat} (h : TakesIn w a len) (hb : Below w.heap.size w w') : TakesIn w' a len :=
  ⟨h.1, fun i hi => by
    obtain ⟨ad, k, n, e, h1, h2, c0, c1⟩ := h.2 i hi
    exact ⟨ad, k, n, e, h1, h2, cell_later hb c0, cell_later hb c1⟩⟩
section
variable {H : Type} {enc : TypeId × Value → H} {w : World} {a : Option Addr} {len cap : Nat} {d : DataW H} {p : List MemPlace}
theorem open_t48 (h : DataW.Trod enc Try.prog w 0 (fun _ => true) true 48 (.slice a len cap) d p) : TakesIn w a len := by
  obtain ⟨hm, _, he⟩ := open_elems (sz := 2) Try.underlying48 (by kernel_rfl) h
  refine ⟨hm, fun i hi => ?_⟩
  obtain ⟨ad, cs, n, y, ha, hl, hc, ht⟩ := he i hi
  obtain ⟨xs, n', _, _, _, hxl, hf⟩ := DataW.trod_struct Try.underlying55 ht
  have hxl4 : xs.length = 2 := hxl
  match cs, hl with
  | [c0, c1], _ =>
    have h3 : Try.prog.cellsOf 3 = 1 := by kernel_rfl
    have f0 : DataW.trod enc Try.prog w 0 (fun _ => true) true n' 3 [c0] = xs[0]? := (show ((([c0, c1] : List Value).drop 0).take (Try.prog.cellsOf 3)) = [c0] by rw [h3]; rfl) ▸ hf 0 _ rfl
    have f1 : DataW.trod enc Try.prog w 0 (fun _ => true) true n' 3 [c1] = xs[1]? := (show ((([c0, c1] : List Value).drop 1).take (Try.prog.cellsOf 3)) = [c1] by rw [h3]; rfl) ▸ hf 1 _ rfl
    obtain ⟨k, rfl, hk⟩ := leaf_int Try.underlying3 f0 (by omega)
    obtain ⟨m, rfl, hm⟩ := leaf_int Try.underlying3 f1 (by omega)
    exact ⟨ad, k, m, ha, hk, hm, hc 0 (by omega), by rw [← add_off _ _ 1 (by omega)]; exact hc 1 (by omega)⟩
end
theorem and15 (e : Int) : 0 ≤ bits .and .i64 e 15 ∧ bits .and .i64 e 15 ≤ 15 := by
  have h : (BitVec.ofInt 64 e &&& BitVec.ofInt 64 15).toNat ≤ 15 := by
    rw [BitVec.toNat_and]
    exact Nat.le_trans Nat.and_le_right (by decide)
  generalize hq : (BitVec.ofInt 64 e &&& BitVec.ofInt 64 15).toNat = q at h
  have hb : bits .and .i64 e 15 = IntKind.i64.wrap (q : Int) := by rw [← hq]; rfl
  rw [hb, IntWalk.i64_in _ ⟨by omega, by omega⟩]
  omega
/-- Between two takings: the Reader, the document's reader. -/
def SI (w : World) (g bx : Nat) (f : Int) (W : World) : Prop := IsS63 w W g E0 f ∧ Below w.heap.size w W ∧ W.heap[bx]? = some (.cells #[.string E0, .int .i64 f] 51 (0, 0))
theorem SI.below {w W W' : World} {g bx : Nat} {f : Int} (h : SI w g bx f W) (hb : Below W.heap.size W W') : SI w g bx f W' := ⟨h.1.below hb, ((Turn.ofBelow h.2.1 Nope).below hb).nopeBelow, (Turn.toNope hb).blk h.2.2 id⟩
theorem SI.alloc {w W : World} {g bx : Nat} {f : Int} {R : Prop} (h : SI w g bx f W ∧ R) (o : Obj) : SI w g bx f (W.alloc o) := h.1.below ((Turn.refl Nope W).alloc o).nopeBelow
theorem SI.alloc0 {w W : World} {g bx : Nat} {f : Int} {R : Prop} (h : SI w g bx f W ∧ R) : SI w g bx f W := h.1
theorem SI.set1 {w W : World} {g bx q i : Nat} {f : Int} {v : Value} (h : SI w g bx f W) (hg : g < q) (hx : bx < q) : SI w g bx f (W.setCell ⟨q, i, none⟩ v) :=
  ⟨h.1.far (by show g ≠ q; omega) v, ((Turn.ofBelow h.2.1 Nope).set_new (by have := h.1.ge; omega) v).nopeBelow, blk_far h.2.2 (by show bx ≠ q; omega) v⟩
theorem SI.setb {w W : World} {g bx : Nat} {f : Int} (h : SI w g bx f W) (hg : g < bx) : SI w g bx f ((W.setCell ⟨bx, 0, none⟩ (.string E0)).setCell ⟨bx, 1, none⟩ (.int .i64 f)) :=
  ⟨(h.1.far (by show g ≠ bx; omega) _).far (by show g ≠ bx; omega) _, (((Turn.ofBelow h.2.1 Nope).set_new (by have := h.1.ge; omega) _).set_new (by have := h.1.ge; omega) _).nopeBelow, by have := blk_set (blk_set h.2.2 0 (.string E0)) 1 (.int .i64 f); simpa using this⟩
theorem SI.keep {w W W' : World} {g bx : Nat} {f : Int} (h : SI w g bx f W) (hg : g < bx) (hi : IsS63 w W' g E0 f) (hb : Below w.heap.size w W') (hk : KeepBut W W' g none) : SI w g bx f W' := ⟨hi, hb, (hk.2 _ (blk_lt h.2.2) (by omega) (by simp)).trans h.2.2⟩
theorem SI.set {w W : World} {g bx q i : Nat} {f : Int} {v : Value} {R : Prop} (h : SI w g bx f W ∧ R) (hg : g < q) (hx : bx < q) : SI w g bx f (W.setCell ⟨q, i, none⟩ v) :=
  ⟨h.1.1.far (by show g ≠ q; omega) v, ((Turn.ofBelow h.1.2.1 Nope).set_new (by have := h.1.1.ge; omega) v).nopeBelow, blk_far h.1.2.2 (by show bx ≠ q; omega) v⟩
set_option maxRecDepth 8000 in
set_option maxHeartbeats 4000000 in
theorem stays_any (a : Option Addr) (len cap : Nat) (e : Int) (w : World) (ha : TakesIn w a len) : Calls Try.prog 5 #[.slice a len cap, .int .i64 e] w fun r w' => r = .returned (.bool true) ∧ Below w.heap.size w w' := by
  have hx := and15 e
  have HTK := Lib.hid ha
  have hlm := ha.1
  have HLM := Lib.hid hlm
  clear ha hlm
  generalize hx0 : bits .and .i64 e 15 = x at *
  have hf1 : IntKind.i64.wrap (1 + x) = 1 + x := IntWalk.i64_in _ ⟨by omega, by omega⟩
  have hf2 : wrap64 (1 + x) = 1 + x := IntWalk.wrap64_in _ ⟨by omega, by omega⟩
  have HNE : Hid (1 + x ≠ 0) := by show _ ≠ _; omega
  go_enter Try.func5, Try.ntmps5
  go_upto_region 8 with (first
    | (go_at_call 9; refine (awake_any _).mono ?_; rintro r w1 ⟨rfl, hb⟩; have HB := Lib.hid hb; clear hb)
    | (go_at_call 8; refine (PWireStays.wire_Read.calls _ _ _ w _ HB.out rfl).mono ?_; rintro r w2 ⟨g, rfl, hi, hb, -⟩; have HI := Lib.hid hi; have HB := Lib.hid hb; clear hi hb)
    | (go_at_call 23; refine (wire_Reader_Fail.calls _ _ _ _ E0 (1 + x) w _ HI.out HB.out rfl).mono ?_; rintro r w3 ⟨rfl, hi, hb, -⟩; have HI := Lib.hid hi; have HB := Lib.hid hb; clear hi hb))
  generalize 1 + x = f at *
  have HS0 : Hid (SI w g w3.heap.size f (w3.alloc (.cells #[.string E0, .int .i64 f] 51))) := ⟨HI.out.alloc _, ((Turn.ofBelow HB.out Nope).alloc _).nopeBelow, blk_new w3 _⟩
  have HGX := Lib.hid HI.out.lt
  generalize hbx : w3.heap.size = bx at *
  clear hbx
  go_loopg [8] (10) (fun gk v8 wr => ∃ i : Nat, v8 = .int .i64 (i : Int) ∧ Hid (gk + i = 10) ∧ SI w g bx f wr)
  case atStart => exact ⟨0, rfl, rfl, HS0.out⟩
  case round =>
    obtain ⟨i, rfl, hi, hsi⟩ := hrel
    have HS := Lib.hid hsi
    clear hsi
    rename World => wl
    have hi10 : i ≤ 10 := by have := hi.out; omega
    have hwi : wrap64 ((i : Int) + 1) = (i : Int) + 1 := IntWalk.wrap64_in _ ⟨by omega, by omega⟩
    have hlm := HLM.out
    by_cases hil : i < len
    · have b1 : decide ((i : Int) < (len : Int)) = true := by simp; omega
      have b1n : decide (i < len) = true := by simpa using hil
      by_cases hi9 : i < 10
      · have b2 : decide ((i : Int) < 10) = true := by simp; omega
        have b2n : decide (i < 10) = true := by simpa using hi9
        obtain ⟨ad, k, n, rfl, hkw, hnw, hk0, hn0⟩ := HTK.out.2 i hil
        have ii0 : (0 : Int) ≤ (i : Int) := by omega
        have ii1 : (i : Int) < (len : Int) := by omega
        have SAT : Hid (∀ W : World, SI w g bx f W → (SI w g bx f W ∧ W.cell? ⟨bx, 0, none⟩ = some (.string E0) ∧ W.cell? ⟨bx, 1, none⟩ = some (.int .i64 f) ∧ W.cell? (ad.add (i * 2)) = some (.int .i64 k) ∧ W.cell? ⟨(ad.add (i * 2)).block, (ad.add (i * 2)).off + 1, none⟩ = some (.int .i64 n))) := fun W h => ⟨h, (blk_cell h.2.2 0).trans rfl, (blk_cell h.2.2 1).trans rfl, cell_later h.2.1 hk0, cell_later h.2.1 hn0⟩
        clear hk0 hn0
        have HSD := Lib.hid (HS.out.below (Turn.refl Nope wl).drew.nopeBelow)
        have hgl : g < wl.heap.size := HS.out.1.lt
        have hbl : bx < wl.heap.size := blk_lt HS.out.2.2
        go_wp2_with fail
        go_region_held3 (fun W => SI w g bx f W ∧ W.cell? ⟨bx, 0, none⟩ = some (.string E0) ∧ W.cell? ⟨bx, 1, none⟩ = some (.int .i64 f) ∧ W.cell? (ad.add (i * 2)) = some (.int .i64 k) ∧ W.cell? ⟨(ad.add (i * 2)).block, (ad.add (i * 2)).off + 1, none⟩ = some (.int .i64 n)) (first | exact SAT.out _ HSD.out | exact SAT.out _ HS4.out | exact SAT.out _ (SI.set1 (SI.set1 HS4.out (by omega) (by omega)) (by omega) (by omega)) | exact SAT.out _ (HS4.out.below (((Turn.refl Nope _).alloc _).nopeBelow)) | exact SAT.out _ (SI.alloc (by assumption) _) | exact SAT.out _ (SI.set (by assumption) (by omega) (by omega)) | assumption)
          (first
            | (go_at_call 24; refine (taken_err k n f HNE.out g w _ (SI.alloc0 (by assumption)).1 (SI.alloc0 (by assumption)).2.1).mono ?_; rintro r w4 ⟨rfl, hi4, hb4, hz4, hk4⟩; have HS4 : Hid (SI w g bx f w4) := ⟨hi4, hb4, (hk4 bx (blk_lt (SI.alloc0 (by assumption)).2.2) (by have := HGX.out; omega)).trans (SI.alloc0 (by assumption)).2.2⟩; have hgl4 : g < w4.heap.size := hi4.lt; have hbl4 : bx < w4.heap.size := blk_lt HS4.out.2.2; (first | (have HQ := Lib.hid ((hk4 wl.heap.size (by simp) (by omega)).trans (blk_drew (blk_new wl _))); have q0 := blk_cell HQ.out 0; have q1 := blk_cell HQ.out 1; have q2 := blk_frozen HQ.out 0; have q3 := blk_frozen HQ.out 1; have hq4 : wl.heap.size < w4.heap.size := blk_lt HQ.out; simp at q0 q1) | skip); clear hi4 hb4 hz4 hk4))
        all_goals
          (first
            | (have HX := Lib.hid (And.intro (SI.set1 (i := 1) (v := .int .i64 f) (SI.set1 (i := 0) (v := .string E0) HS4.out hgl hbl) hgl hbl) (And.intro (blk_set (blk_set HQ.out 0 (.string E0)) 1 (.int .i64 f)) (show g < wl.heap.size ∧ bx < wl.heap.size from ⟨hgl, hbl⟩)))
               generalize (w4.setCell ⟨wl.heap.size, 0, none⟩ (.string E0)).setCell ⟨wl.heap.size, 1, none⟩ (.int .i64 f) = w6 at HX ⊢
               generalize wl.heap.size = q at HX ⊢)
            | (have HX := Lib.hid (And.intro (HS4.out.below (((Turn.refl Nope w4).alloc (.cells #[.string E0, .int .i64 f] 51)).nopeBelow)) (And.intro (blk_new w4 (.cells #[.string E0, .int .i64 f] 51)) (show g < w4.heap.size ∧ bx < w4.heap.size from ⟨hgl4, hbl4⟩)))
               generalize w4.alloc (.cells #[.string E0, .int .i64 f] 51) = w6 at HX ⊢
               generalize w4.heap.size = q at HX ⊢))
          have x0 := blk_cell HX.out.2.1 0
          have x1 := blk_cell HX.out.2.1 1
          have y0 := blk_cell HX.out.1.2.2 0
          have y1 := blk_cell HX.out.1.2.2 1
          have y2 := blk_frozen HX.out.1.2.2 0
          have y3 := blk_frozen HX.out.1.2.2 1
          simp at x0 x1 y0 y1
          have HY := Lib.hid (SI.setb HX.out.1 HGX.out)
          have b5 : (f != f) = false := by simp
          go_wp2_with (first
            | (go_at_call 23; refine (wire_Reader_Fail.calls g E0 f 20 E0 f w _ HY.out.1 HY.out.2.1 (by rw [wire_Reader_Fail.f, if_neg HNE.out])).mono ?_; rintro r w7 ⟨rfl, hi, hb, hk⟩; have HY := Lib.hid (HY.out.keep HGX.out hi hb hk); clear hi hb hk)
            | (go_at_call 11; refine (wire_Reader_Err.calls g E0 f f E0 f w _ HY.out.1 HY.out.2.1 rfl).mono ?_; rintro r w8 ⟨rfl, hi, hb, hk⟩; have HY := Lib.hid (HY.out.keep HGX.out hi hb hk); clear hi hb hk))
          go_roundg (10 - (i + 1))
          case measure => have := hi.out; omega
          case rel => exact ⟨i + 1, by go_num, (show 10 - (i + 1) + (i + 1) = 10 by omega), HY.out⟩
      · have b2 : decide ((i : Int) < 10) = false := by simp; omega
        have b2n : decide (i < 10) = false := by simp; omega
        have b5 : (f == f) = true := by simp
        go_wp2_with (first | (go_at_call 13; refine (wire_Reader_End.calls g E0 f f E0 f w _ HS.out.1 HS.out.2.1 (by rw [wire_Reader_End.f, if_pos (by rw [ByteArray.toList_eq])])).mono ?_; rintro r w9 ⟨rfl, hi, hb, -⟩; have HB9 := Lib.hid hb; clear hi hb))
        go_ret
        exact ⟨rfl, HB9.out⟩
    · have b1 : decide ((i : Int) < (len : Int)) = false := by simp; omega
      have b1n : decide (i < len) = false := by simp; omega
      have b5 : (f == f) = true := by simp
      go_wp2_with (first | (go_at_call 13; refine (wire_Reader_End.calls g E0 f f E0 f w _ HS.out.1 HS.out.2.1 (by rw [wire_Reader_End.f, if_pos (by rw [ByteArray.toList_eq])])).mono ?_; rintro r w9 ⟨rfl, hi, hb, -⟩; have HB9 := Lib.hid hb; clear hi hb))
      go_ret
      exact ⟨rfl, HB9.out⟩
theorem stays_walk (a : Option Addr) (len cap : Nat) (e : Int) (w : World) (ha : TakesIn w a len) : Calls Try.prog 5 #[.slice a len cap, .int .i64 e] w fun r w' => r = .returned (.bool true) ∧ Below w.heap.size w w' := stays_any a len cap e w ha
end Go.Proofs.Ytiddipimbdffcaa
