/- BACK: the walk of ObjectBack. -/
import Derived.Test.YteggenihjhclkaaOv
import Derived.Test.YteggenihjhclkaaOap
set_option maxRecDepth 16000
set_option linter.unusedVariables false
set_option linter.unusedSimpArgs false
namespace Go.Proofs.Yteggenihjhclkaa
open Go.RowKit Go.Maps
open Lg (Nm nmOf arr_nm nm_len)
variable {w0 w w' W W' : World} {b m c : Nat} {P Q R : PS}
/-- Three objects, and three boxes. -/
structure Th (w W : World) (gi go gr : Nat) (ib fo : OOp) (gn : ByteArray) (b m c : Nat) (P : PS) (b1 m1 : Nat) (Q1 : PS) (b2 m2 c2 : Nat) (Q2 : PS) : Prop where
  tn : Turn Nope w W
  bi : OpBx W gi ib
  bo : OpBx W go fo
  br : W.heap[gr]? = some (.cells #[.int .i64 0, .string gn] 47 (0, 0))
  x : Ob w W b m c P
  y : Ob w W b1 m1 40 Q1
  z : Ob w W b2 m2 c2 Q2
  ne : gi ≠ m2 ∧ go ≠ m2 ∧ gr ≠ m2 ∧ (b ≠ m2 ∧ m ≠ m2) ∧ b1 ≠ m2 ∧ m1 ≠ m2
variable {gi go gr b1 m1 b2 m2 c2 : Nat} {ib fo : OOp} {gn : ByteArray} {Q1 Q2 : PS}
theorem Th.boxes (h : Th w W gi go gr ib fo gn b m c P b1 m1 Q1 b2 m2 c2 Q2) : OpBx W gi ib ∧ OpBx W go fo ∧ W.heap[gr]? = some (.cells #[.int .i64 0, .string gn] 47 (0, 0)) := ⟨h.bi, h.bo, h.br⟩
theorem Th.nope (h : Th w W gi go gr ib fo gn b m c P b1 m1 Q1 b2 m2 c2 Q2) (ht : Turn Nope W W') : Th w W' gi go gr ib fo gn b m c P b1 m1 Q1 b2 m2 c2 Q2 :=
  ⟨h.tn.trans ht, ht.blk h.bi fun h => h, ht.blk h.bo fun h => h, ht.blk h.br fun h => h, h.x.nope ht, h.y.nope ht, h.z.nope ht, h.ne⟩
theorem Th.onZ {c' : Nat} {Q' : PS} (h : Th w W gi go gr ib fo gn b m c P b1 m1 Q1 b2 m2 c2 Q2) (ht : Turn (At m2) W W') (hz : Ob w W' b2 m2 c' Q') : Th w W' gi go gr ib fo gn b m c P b1 m1 Q1 b2 m2 c' Q' :=
  ⟨h.tn.then ht fun j hj => .inr (by rw [show j = m2 from hj]; exact h.z.lo.2), ht.blk h.bi (fun e => h.ne.1 e), ht.blk h.bo (fun e => h.ne.2.1 e), ht.blk h.br (fun e => h.ne.2.2.1 e),
   h.x.turn ht (fun e => h.ne.2.2.2.1.1 e) (fun e => h.ne.2.2.2.1.2 e), h.y.turn ht (fun e => h.ne.2.2.2.2.1 e) (fun e => h.ne.2.2.2.2.2 e), hz, h.ne⟩
set_option maxHeartbeats 64000000 in
theorem back_walk (n : Int) (a : Option Addr) (len cap : Nat) (w : World) (hin : OpsIn w a len) :
    Calls Try.prog 5 #[.int .i64 n, .slice a len cap] w fun e w' => e = .returned (.bool true) ∧ Below w.heap.size w w' := by
  have HIN := Lib.hid hin
  clear hin
  obtain ⟨k, hkn⟩ : ∃ k, kindN n = k := ⟨_, rfl⟩
  have HKN := Lib.hid hkn
  have HK : Hid (1 ≤ k ∧ k ≤ 3) := by rw [← hkn]; exact ⟨(kindN_spec n).1, (kindN_spec n).2.1⟩
  clear hkn
  obtain ⟨T, FD, FS, FC, FK, hm⟩ := Mt.mk' (PS.new k)
  have HM := Lib.hid hm
  clear hm
  go_enter Try.func5, Try.ntmps5
  go_wp2_with fail
  refine (awake_any _).mono ?_
  rintro e w1 ⟨rfl, ht⟩
  have HT1 := Lib.hid ht
  clear ht
  go_wp2_with fail
  refine (okind_any n w1).mono ?_
  rintro e w2 ⟨rfl, rfl⟩
  rw [HKN.out]
  go_wp2_with fail
  refine (onewk k HK.out HM.out w2).mono ?_
  rintro e w3 ⟨b, m, rfl, hob, ht⟩
  have HW0 : Hid (Ob w w3 b m (1 + 2 * 0) (PS.new k) ∧ Turn Nope w w3) := ⟨hob.low HT1.out.size, HT1.out.trans ht⟩
  clear hob ht HT1
  go_wp2_with fail
  go_loopg [6] 40 (fun kk v6 wr => ∃ (i : Nat) (P : PS), v6 = .int .i64 (i : Int) ∧ Hid (kk + i = 40) ∧ Hid (P.kind = (PS.new k).kind) ∧ Hid (Ob w wr b m (1 + 2 * i) P ∧ Turn Nope w wr))
  case atStart => exact ⟨0, _, rfl, rfl, rfl, HW0.out⟩
  case round =>
    obtain ⟨i, P, rfl, hk, HPK, HW1⟩ := hrel
    clear HW0
    have hw : wrap64 ((i : Int) + 1) = (i : Int) + 1 := IntWalk.wrap64_in _ ⟨by have := hk.out; omega, by have := hk.out; omega⟩
    have HWR := Lib.hid hw
    clear hw
    by_cases hlt : i < len
    · have b1 : decide ((i : Int) < (len : Int)) = true := by simp; omega
      have b1n : decide (i < len) = true := by simp; omega
      by_cases h10 : i < 40
      · have b2 : decide ((i : Int) < 40) = true := by simp; omega
        have b2n : decide (i < 40) = true := by simp; omega
        obtain ⟨ad, o, rfl, hsz, hc⟩ := HIN.out.cells hlt
        obtain ⟨c0, c1, c2, c3, c4, c5, c6, c7, c8, c9, c10, c11⟩ := hc.later HW1.out.2.nopeBelow
        have i0 : (0 : Int) ≤ (i : Int) := by omega
        have i1 : (i : Int) < (len : Int) := by omega
        have HI := Lib.hid h10
        have HMP := Lib.hid (HM.out.of (Q := P) HPK.out)
        clear hlt h10 hsz hc
        go_wp2_with fail
        clear c0 c1 c2 c3 c4 c5 c6 c7 c8 c9 c10 c11 i0 i1 b1 b1n b2 b2n
        refine (few_any o wr).mono ?_
        rintro e w4 ⟨rfl, ht⟩
        have HO4 := Lib.hid (And.intro (HW1.out.1.nope ht) (HW1.out.2.trans ht))
        obtain ⟨fo, hfo⟩ : ∃ fo, few o = fo := ⟨_, rfl⟩
        have HFZ : Hid (fo.ln.size ≤ maxLen ∧ fo.lt.size ≤ maxLen ∧ fo.sn.size ≤ maxLen) := by rw [← hfo]; exact few_sz o
        rw [hfo, show opC fo = #[.int .i64 fo.k, .int .i64 fo.tk, .int .i64 fo.ta, .string fo.ts, .int .i64 fo.tn, .int .i64 fo.lk, .string fo.ln, .string fo.lt, .int .i64 fo.la, .int .i64 fo.sk, .string fo.sn, .int .i64 fo.sN] from rfl]
        clear ht hfo HW1
        have h1 := HM.out.mc b
        have h2 := HM.out.ec
        go_upto_region 9 with fail
        have HB5 : Hid (OpBx (w4.alloc (.cells #[.int .i64 fo.k, .int .i64 fo.tk, .int .i64 fo.ta, .string fo.ts, .int .i64 fo.tn, .int .i64 fo.lk, .string fo.ln, .string fo.lt, .int .i64 fo.la, .int .i64 fo.sk, .string fo.sn, .int .i64 fo.sN] 30)) w4.heap.size fo) := blk_new _ _
        have HO5 := Lib.hid (And.intro (HO4.out.1.nope ((Turn.refl _ _).alloc (.cells #[.int .i64 fo.k, .int .i64 fo.tk, .int .i64 fo.ta, .string fo.ts, .int .i64 fo.tn, .int .i64 fo.lk, .string fo.ln, .string fo.lt, .int .i64 fo.la, .int .i64 fo.sk, .string fo.sn, .int .i64 fo.sN] 30))) (HO4.out.2.alloc (.cells #[.int .i64 fo.k, .int .i64 fo.tk, .int .i64 fo.ta, .string fo.ts, .int .i64 fo.tn, .int .i64 fo.lk, .string fo.ln, .string fo.lt, .int .i64 fo.la, .int .i64 fo.sk, .string fo.sn, .int .i64 fo.sN] 30)))
        have HG5 : Hid (w4.heap.size ≠ m) := by have := HO4.out.1.lt.2; exact (by omega : w4.heap.size ≠ m)
        generalize w4.alloc (.cells #[.int .i64 fo.k, .int .i64 fo.tk, .int .i64 fo.ta, .string fo.ts, .int .i64 fo.tn, .int .i64 fo.lk, .string fo.ln, .string fo.lt, .int .i64 fo.la, .int .i64 fo.sk, .string fo.sn, .int .i64 fo.sN] 30) = w5 at HB5 HO5 ⊢
        generalize w4.heap.size = go at HB5 HG5 ⊢
        clear HO4
        go_wp2_with fail
        clear h1 h2
        refine (mclone HMP.out HO5.out.1).mono ?_
        rintro e w6 ⟨b1, m1, Q1, rfl, hob, heq, ht⟩
        have HO6 := Lib.hid (And.intro (HO5.out.1.nope ht) (HO5.out.2.trans ht))
        have HB6 : Hid (OpBx w6 go fo) := ht.blk HB5.out fun h => h
        have HY6 := Lib.hid (hob.low (w0 := w) HO5.out.2.size)
        have HE1 := Lib.hid heq
        have HM1 := Lib.hid (HMP.out.of (Q := Q1) heq.kind)
        have HYN : Hid (m1 ≠ m ∧ b1 ≠ m) := by have h1 := HO5.out.1.lt.2; have h2 := hob.lo; exact ⟨by omega, by omega⟩
        clear hob heq ht HO5 HB5
        have h1 := HM.out.md b
        have h2 := HM.out.ed
        obtain ⟨⟨c0, c1, c2, c3, c4, c5, c6, c7, c8, c9, c10, c11⟩, -⟩ := HB6.out.cells
        go_wp2_with fail
        clear h1 h2 c0 c1 c2 c3 c4 c5 c6 c7 c8 c9 c10 c11
        refine (mdo HMP.out HO6.out.1 fo HFZ.out (by have := hk.out; omega)).mono ?_
        rintro e w7 ⟨rfl, hob, ht⟩
        have HO7 := Lib.hid (And.intro hob (HO6.out.2.then ht fun j hj => .inr (by rw [show j = m from hj]; exact HO6.out.1.lo.2)))
        have HB7 : Hid (OpBx w7 go fo) := ht.blk HB6.out (fun e => HG5.out e)
        have HY7 := Lib.hid (HY6.out.turn ht (fun e => HYN.out.2 e) (fun e => HYN.out.1 e))
        have HOKP := Lib.hid HO6.out.1.ok
        unfold resV
        obtain ⟨E, hE⟩ : ∃ E, P.err fo = E := ⟨_, rfl⟩
        obtain ⟨gn, hgn⟩ : ∃ G, P.gone fo = G := ⟨_, rfl⟩
        rw [hE, hgn]
        have HER := Lib.hid (And.intro hE hgn)
        clear hob ht hE hgn HO6 HB6 HY6
        go_upto_region 11 with fail
        have HR8 := Lib.hid (blk_new w7 (.cells #[.int .i64 E, .string gn] 47))
        have HT8 := Lib.hid ((Turn.refl Nope w7).alloc (.cells #[.int .i64 E, .string gn] 47))
        have HO8 := Lib.hid (And.intro (HO7.out.1.nope HT8.out) (HO7.out.2.trans HT8.out))
        have HB8 : Hid (OpBx (w7.alloc (.cells #[.int .i64 E, .string gn] 47)) go fo) := HT8.out.blk HB7.out fun h => h
        have HY8 := Lib.hid (HY7.out.nope HT8.out)
        generalize w7.alloc (.cells #[.int .i64 E, .string gn] 47) = w8 at HR8 HT8 HO8 HB8 HY8 ⊢
        generalize w7.heap.size = gr at HR8 ⊢
        clear HO7 HB7 HY7 HT8
        have r0 := blk_cell HR8.out 0
        have r1 := blk_cell HR8.out 1
        simp only [List.getElem?_toArray, List.getElem?_cons_zero, List.getElem?_cons_succ] at r0 r1
        by_cases he : E = 0
        · subst he
          obtain ⟨⟨c0, c1, c2, c3, c4, c5, c6, c7, c8, c9, c10, c11⟩, -⟩ := HB8.out.cells
          go_wp2_with fail
          clear r0 r1 c0 c1 c2 c3 c4 c5 c6 c7 c8 c9 c10 c11
          have HKD := Lib.hid (okd_of P fo HER.out.1)
          refine (oinv_any fo 0 gn HKD.out w8).mono ?_
          rintro e w9 ⟨rfl, ht⟩
          obtain ⟨ib, hib⟩ : ∃ ib, oinv fo gn = ib := ⟨_, rfl⟩
          have HIB := Lib.hid hib
          have HIZ : Hid (ib.ln.size ≤ maxLen ∧ ib.lt.size ≤ maxLen ∧ ib.sn.size ≤ maxLen) := by
            have h0 : (⟨#[]⟩ : ByteArray).size ≤ maxLen := by decide
            have hz := HFZ.out
            rw [← hib]
            unfold oinv
            split
            · split
              · exact ⟨h0, h0, h0⟩
              · exact ⟨h0, h0, h0⟩
            · split
              · split
                · exact ⟨hz.2.1, hz.1, h0⟩
                · exact ⟨hz.1, h0, h0⟩
              · exact ⟨h0, h0, hz.2.2⟩
          rw [hib, show opC ib = #[.int .i64 ib.k, .int .i64 ib.tk, .int .i64 ib.ta, .string ib.ts, .int .i64 ib.tn, .int .i64 ib.lk, .string ib.ln, .string ib.lt, .int .i64 ib.la, .int .i64 ib.sk, .string ib.sn, .int .i64 ib.sN] from rfl]
          have HO9 := Lib.hid (And.intro (HO8.out.1.nope ht) (HO8.out.2.trans ht))
          have HB9 : Hid (OpBx w9 go fo) := ht.blk HB8.out fun h => h
          have HR9 := Lib.hid (ht.blk HR8.out fun h => h)
          have HY9 := Lib.hid (HY8.out.nope ht)
          clear ht hib HO8 HB8 HR8 HY8
          go_upto_region 15 with fail
          have HT10 := Lib.hid ((Turn.refl Nope w9).alloc (.cells #[.int .i64 ib.k, .int .i64 ib.tk, .int .i64 ib.ta, .string ib.ts, .int .i64 ib.tn, .int .i64 ib.lk, .string ib.ln, .string ib.lt, .int .i64 ib.la, .int .i64 ib.sk, .string ib.sn, .int .i64 ib.sN] 30))
          have HI10 : Hid (OpBx (w9.alloc (.cells #[.int .i64 ib.k, .int .i64 ib.tk, .int .i64 ib.ta, .string ib.ts, .int .i64 ib.tn, .int .i64 ib.lk, .string ib.ln, .string ib.lt, .int .i64 ib.la, .int .i64 ib.sk, .string ib.sn, .int .i64 ib.sN] 30)) w9.heap.size ib) := blk_new _ _
          have HO10 := Lib.hid (And.intro (HO9.out.1.nope HT10.out) (HO9.out.2.trans HT10.out))
          have HB10 : Hid (OpBx (w9.alloc (.cells #[.int .i64 ib.k, .int .i64 ib.tk, .int .i64 ib.ta, .string ib.ts, .int .i64 ib.tn, .int .i64 ib.lk, .string ib.ln, .string ib.lt, .int .i64 ib.la, .int .i64 ib.sk, .string ib.sn, .int .i64 ib.sN] 30)) go fo) := HT10.out.blk HB9.out fun h => h
          have HR10 := Lib.hid (HT10.out.blk HR9.out fun h => h)
          have HY10 := Lib.hid (HY9.out.nope HT10.out)
          generalize w9.alloc (.cells #[.int .i64 ib.k, .int .i64 ib.tk, .int .i64 ib.ta, .string ib.ts, .int .i64 ib.tn, .int .i64 ib.lk, .string ib.ln, .string ib.lt, .int .i64 ib.la, .int .i64 ib.sk, .string ib.sn, .int .i64 ib.sN] 30) = w10 at HI10 HT10 HO10 HB10 HR10 HY10 ⊢
          generalize w9.heap.size = gi at HI10 ⊢
          clear HO9 HB9 HR9 HY9 HT10
          have h1 := HM.out.mc b
          have h2 := HM.out.ec
          go_wp2_with fail
          clear h1 h2
          refine (mclone (HMP.out.of (Q := P.nxt fo) (PS.kind_nxt _ _)) HO10.out.1).mono ?_
          rintro e w11 ⟨b2, m2, Q2, rfl, hob, heq, ht⟩
          have HS : Hid (Th w w11 gi go gr ib fo gn b m (1 + 2 * i + 2) (P.nxt fo) b1 m1 Q1 b2 m2 40 Q2) := by
            have l1 := HO10.out.1.lt
            have l2 := HY10.out.lt
            have l3 := hob.lo
            have l4 := blk_lt HI10.out
            have l5 := blk_lt HB10.out
            have l6 := blk_lt HR10.out
            exact ⟨HO10.out.2.trans ht, ht.blk HI10.out fun h => h, ht.blk HB10.out fun h => h, ht.blk HR10.out fun h => h, HO10.out.1.nope ht, HY10.out.nope ht, hob.low HO10.out.2.size, by omega, by omega, by omega, ⟨by omega, by omega⟩, by omega, by omega⟩
          have HM2 := Lib.hid (HMP.out.of (Q := Q2) (heq.kind.trans (PS.kind_nxt _ _)))
          obtain ⟨sv, hsv⟩ : ∃ s, P.saved = s := ⟨_, rfl⟩
          have HSV : Hid (Q1.saved = sv) := HE1.out.saved.trans hsv
          have HBK : Hid (Q2.err ib = 0 ∧ (Q2.nxt ib).saved = sv) := by
            have h := backP HOKP.out fo HER.out.1
            rw [HER.out.2, HIB.out] at h
            refine ⟨(heq.err ib).trans h.1, ?_⟩
            rw [(heq.nxt ib).saved, h.2.saved, hsv]
          clear hob heq ht HO10 HI10 HB10 HR10 HY10 hsv
          have h1 := HM.out.md b2
          have h2 := HM.out.ed
          have h3 := HM.out.ms b2
          have h4 := HM.out.es
          have h5 := HM.out.ms b1
          have hfl := fld47
          have s5 : (sv.toList != sv.toList) = false := by simp
          go_upto_region 16 with fail
          apply Code.wp_mono (Q := AtN _ (fun W => Ob w W b m (1 + 2 * i + 2) (P.nxt fo) ∧ Turn Nope w W))
          rotate_left
          · skip
            replace HS := Lib.hid (HS.out.nope (Turn.refl Nope _).drew)
            refine wp_region_held_drew (S := fun W => OpBx W gi ib ∧ OpBx W go fo ∧ W.heap[gr]? = some (.cells #[.int .i64 0, .string gn] 47 (0, 0))) (by kernel_rfl) HS.out.boxes (fun hHeld => ?_)
            refine' wpAnyH_take (i := 0) (v := _) (by simp only [List.getElem?_toArray, List.getElem?_cons_succ, List.getElem?_cons_zero]; rfl) (by kernel_rfl) (by kernel_rfl) (by kernel_rfl) (by intro _ _ _ h; exact h) (Or.inl ⟨by rfl, ?hyb1⟩) hHeld ?restb1
            case hyb1 => (intro w hSw; obtain ⟨s1, s2, s3⟩ := hSw; obtain ⟨⟨c0, c1, c2, c3, c4, c5, c6, c7, c8, c9, c10, c11⟩, -⟩ := s1.cells; obtain ⟨⟨d0, d1, d2, d3, d4, d5, d6, d7, d8, d9, d10, d11⟩, -⟩ := s2.cells; have r0 := blk_cell s3 0; have r1 := blk_cell s3 1; simp only [List.getElem?_toArray, List.getElem?_cons_zero, List.getElem?_cons_succ] at r0 r1; go_simp; try (with_reducible rfl))
            simp only [Act.put, List.setIfInBounds_toArray, List.set_cons_zero, List.set_cons_succ]
            refine' wpAnyH_take (i := 2) (v := _) (by simp only [List.getElem?_toArray, List.getElem?_cons_succ, List.getElem?_cons_zero]; rfl) (by kernel_rfl) (by kernel_rfl) (by kernel_rfl) (by intro _ _ _ h; exact h) (Or.inl ⟨by rfl, ?hyb2⟩) hHeld ?restb2
            case hyb2 => (intro w hSw; obtain ⟨s1, s2, s3⟩ := hSw; obtain ⟨⟨c0, c1, c2, c3, c4, c5, c6, c7, c8, c9, c10, c11⟩, -⟩ := s1.cells; obtain ⟨⟨d0, d1, d2, d3, d4, d5, d6, d7, d8, d9, d10, d11⟩, -⟩ := s2.cells; have r0 := blk_cell s3 0; have r1 := blk_cell s3 1; simp only [List.getElem?_toArray, List.getElem?_cons_zero, List.getElem?_cons_succ] at r0 r1; go_simp; try (with_reducible rfl))
            simp only [Act.put, List.setIfInBounds_toArray, List.set_cons_zero, List.set_cons_succ]
            refine' wpAnyH_take (i := 4) (v := _) (by simp only [List.getElem?_toArray, List.getElem?_cons_succ, List.getElem?_cons_zero]; rfl) (by kernel_rfl) (by kernel_rfl) (by kernel_rfl) (by intro _ _ _ h; exact h) (Or.inl ⟨by rfl, ?hyb3⟩) hHeld ?restb3
            case hyb3 => (intro w hSw; (try dsimp only at hSw); go_simp; try (with_reducible rfl))
            simp only [Act.put, List.setIfInBounds_toArray, List.set_cons_zero, List.set_cons_succ]
            refine' wpAnyH_take (i := 5) (v := _) (by simp only [List.getElem?_toArray, List.getElem?_cons_succ, List.getElem?_cons_zero]; rfl) (by kernel_rfl) (by kernel_rfl) (by kernel_rfl) (by intro _ _ _ h; exact h) (Or.inl ⟨by rfl, ?hyb4⟩) hHeld ?restb4
            case hyb4 => (intro w hSw; obtain ⟨s1, s2, s3⟩ := hSw; obtain ⟨⟨c0, c1, c2, c3, c4, c5, c6, c7, c8, c9, c10, c11⟩, -⟩ := s1.cells; obtain ⟨⟨d0, d1, d2, d3, d4, d5, d6, d7, d8, d9, d10, d11⟩, -⟩ := s2.cells; have r0 := blk_cell s3 0; have r1 := blk_cell s3 1; simp only [List.getElem?_toArray, List.getElem?_cons_zero, List.getElem?_cons_succ] at r0 r1; go_simp; try (with_reducible rfl))
            simp only [Act.put, List.setIfInBounds_toArray, List.set_cons_zero, List.set_cons_succ]
            refine wpAnyH_ready (rs := [1]) (by kernel_rfl) (by simp) (AllReadyH.cons (by simp only [List.getElem?_toArray, List.getElem?_cons_succ, List.getElem?_cons_zero]; rfl) (fun K hK => ?_) AllReadyH.nil)
            rw [if_pos (by first | rfl | (simp [Region.wanted]; done) | kernel_rfl)]
            go_simp
            refine (told_any ib _).mono ?_
            rintro e y ⟨rfl, ht⟩
            rw [show opC ib = #[.int .i64 ib.k, .int .i64 ib.tk, .int .i64 ib.ta, .string ib.ts, .int .i64 ib.tn, .int .i64 ib.lk, .string ib.ln, .string ib.lt, .int .i64 ib.la, .int .i64 ib.sk, .string ib.sn, .int .i64 ib.sN] from rfl]
            replace HS := Lib.hid (HS.out.nope ht)
            clear ht
            refine hK.out _ _ ?_ (fun hHeld => ?_)
            · exact HS.out.boxes
            clear hK K
            try simp only [Act.put, List.setIfInBounds_toArray, List.set_cons_zero, List.set_cons_succ]
            refine wpAnyH_ready (rs := [3]) (by kernel_rfl) (by simp) (AllReadyH.cons (by simp only [List.getElem?_toArray, List.getElem?_cons_succ, List.getElem?_cons_zero]; rfl) (fun K hK => ?_) AllReadyH.nil)
            rw [if_pos (by first | rfl | (simp [Region.wanted]; done) | kernel_rfl)]
            go_simp
            refine (told_any fo _).mono ?_
            rintro e y ⟨rfl, ht⟩
            rw [show opC fo = #[.int .i64 fo.k, .int .i64 fo.tk, .int .i64 fo.ta, .string fo.ts, .int .i64 fo.tn, .int .i64 fo.lk, .string fo.ln, .string fo.lt, .int .i64 fo.la, .int .i64 fo.sk, .string fo.sn, .int .i64 fo.sN] from rfl]
            replace HS := Lib.hid (HS.out.nope ht)
            clear ht
            refine hK.out _ _ ?_ (fun hHeld => ?_)
            · exact HS.out.boxes
            clear hK K
            try simp only [Act.put, List.setIfInBounds_toArray, List.set_cons_zero, List.set_cons_succ]
            refine wpAnyH_ready (rs := [6]) (by kernel_rfl) (by simp) (AllReadyH.cons (by simp only [List.getElem?_toArray, List.getElem?_cons_succ, List.getElem?_cons_zero]; rfl) (fun K hK => ?_) AllReadyH.nil)
            rw [if_pos (by first | rfl | (simp [Region.wanted]; done) | kernel_rfl)]
            go_simp
            refine (refinv_any fo gn HKD.out _).mono ?_
            rintro e y ⟨rfl, ht⟩
            rw [HIB.out, show opC ib = #[.int .i64 ib.k, .int .i64 ib.tk, .int .i64 ib.ta, .string ib.ts, .int .i64 ib.tn, .int .i64 ib.lk, .string ib.ln, .string ib.lt, .int .i64 ib.la, .int .i64 ib.sk, .string ib.sn, .int .i64 ib.sN] from rfl]
            replace HS := Lib.hid (HS.out.nope ht)
            clear ht
            refine hK.out _ _ ?_ (fun hHeld => ?_)
            · exact HS.out.boxes
            clear hK K
            try simp only [Act.put, List.setIfInBounds_toArray, List.set_cons_zero, List.set_cons_succ]
            refine' wpAnyH_take (i := 7) (v := _) (by simp only [List.getElem?_toArray, List.getElem?_cons_succ, List.getElem?_cons_zero]; rfl) (by kernel_rfl) (by kernel_rfl) (by kernel_rfl) (by intro _ _ _ h; exact h) (Or.inl ⟨by rfl, ?hyb5⟩) hHeld ?restb5
            case hyb5 => (intro w hSw; (try dsimp only at hSw); go_simp; try (with_reducible rfl))
            simp only [Act.put, List.setIfInBounds_toArray, List.set_cons_zero, List.set_cons_succ]
            refine' wpAnyH_take (i := 8) (v := _) (by simp only [List.getElem?_toArray, List.getElem?_cons_succ, List.getElem?_cons_zero]; rfl) (by kernel_rfl) (by kernel_rfl) (by kernel_rfl) (by intro _ _ _ h; exact h) (Or.inl ⟨by rfl, ?hyb6⟩) hHeld ?restb6
            case hyb6 => (intro w hSw; (try dsimp only at hSw); go_simp; try (with_reducible rfl))
            simp only [Act.put, List.setIfInBounds_toArray, List.set_cons_zero, List.set_cons_succ]
            refine' wpAnyH_take (i := 9) (v := _) (by simp only [List.getElem?_toArray, List.getElem?_cons_succ, List.getElem?_cons_zero]; rfl) (by kernel_rfl) (by kernel_rfl) (by kernel_rfl) (by intro _ _ _ h; exact h) (Or.inl ⟨by rfl, ?hyb7⟩) hHeld ?restb7
            case hyb7 => (intro w hSw; (try dsimp only at hSw); go_simp; try (with_reducible rfl))
            simp only [Act.put, List.setIfInBounds_toArray, List.set_cons_zero, List.set_cons_succ]
            refine' wpAnyH_take (i := 10) (v := _) (by simp only [List.getElem?_toArray, List.getElem?_cons_succ, List.getElem?_cons_zero]; rfl) (by kernel_rfl) (by kernel_rfl) (by kernel_rfl) (by intro _ _ _ h; exact h) (Or.inl ⟨by rfl, ?hyb8⟩) hHeld ?restb8
            case hyb8 => (intro w hSw; obtain ⟨s1, s2, s3⟩ := hSw; obtain ⟨⟨c0, c1, c2, c3, c4, c5, c6, c7, c8, c9, c10, c11⟩, -⟩ := s1.cells; obtain ⟨⟨d0, d1, d2, d3, d4, d5, d6, d7, d8, d9, d10, d11⟩, -⟩ := s2.cells; have r0 := blk_cell s3 0; have r1 := blk_cell s3 1; simp only [List.getElem?_toArray, List.getElem?_cons_zero, List.getElem?_cons_succ] at r0 r1; go_simp; try (with_reducible rfl))
            simp only [Act.put, List.setIfInBounds_toArray, List.set_cons_zero, List.set_cons_succ]
            refine wpAnyH_ready (rs := [11]) (by kernel_rfl) (by simp) (AllReadyH.cons (by simp only [List.getElem?_toArray, List.getElem?_cons_succ, List.getElem?_cons_zero]; rfl) (fun K hK => ?_) AllReadyH.nil)
            rw [if_pos (by first | rfl | (simp [Region.wanted]; done) | kernel_rfl)]
            go_simp
            refine (mdo HM2.out HS.out.z ib HIZ.out (by omega)).mono ?_
            rintro e y ⟨rfl, hob, ht⟩
            unfold resV
            rw [HBK.out.1]
            replace HS := Lib.hid (HS.out.onZ ht hob)
            clear ht hob
            refine hK.out _ _ ?_ (fun hHeld => ?_)
            · exact HS.out.boxes
            clear hK K
            try simp only [Act.put, List.setIfInBounds_toArray, List.set_cons_zero, List.set_cons_succ]
            refine' wpAnyH_take (i := 12) (v := _) (by simp only [List.getElem?_toArray, List.getElem?_cons_succ, List.getElem?_cons_zero]; rfl) (by kernel_rfl) (by kernel_rfl) (by kernel_rfl) (by intro _ _ _ h; exact h) (Or.inl ⟨by rfl, ?hyb9⟩) hHeld ?restb9
            case hyb9 => (intro w hSw; (try dsimp only at hSw); go_simp; try (with_reducible rfl))
            simp only [Act.put, List.setIfInBounds_toArray, List.set_cons_zero, List.set_cons_succ]
            refine' wpAnyH_take (i := 13) (v := _) (by simp only [List.getElem?_toArray, List.getElem?_cons_succ, List.getElem?_cons_zero]; rfl) (by kernel_rfl) (by kernel_rfl) (by kernel_rfl) (by intro _ _ _ h; exact h) (Or.inl ⟨by rfl, ?hyb10⟩) hHeld ?restb10
            case hyb10 => (intro w hSw; (try dsimp only at hSw); go_simp; try (with_reducible rfl))
            simp only [Act.put, List.setIfInBounds_toArray, List.set_cons_zero, List.set_cons_succ]
            refine' wpAnyH_take (i := 14) (v := _) (by simp only [List.getElem?_toArray, List.getElem?_cons_succ, List.getElem?_cons_zero]; rfl) (by kernel_rfl) (by kernel_rfl) (by kernel_rfl) (by intro _ _ _ h; exact h) (Or.inl ⟨by rfl, ?hyb11⟩) hHeld ?restb11
            case hyb11 => (intro w hSw; (try dsimp only at hSw); go_simp; try (with_reducible rfl))
            simp only [Act.put, List.setIfInBounds_toArray, List.set_cons_zero, List.set_cons_succ]
            refine' wpAnyH_take (i := 15) (v := _) (by simp only [List.getElem?_toArray, List.getElem?_cons_succ, List.getElem?_cons_zero]; rfl) (by kernel_rfl) (by kernel_rfl) (by kernel_rfl) (by intro _ _ _ h; exact h) (Or.inl ⟨by rfl, ?hyb12⟩) hHeld ?restb12
            case hyb12 => (intro w hSw; (try dsimp only at hSw); go_simp; try (with_reducible rfl))
            simp only [Act.put, List.setIfInBounds_toArray, List.set_cons_zero, List.set_cons_succ]
            refine' wpAnyH_take (i := 16) (v := _) (by simp only [List.getElem?_toArray, List.getElem?_cons_succ, List.getElem?_cons_zero]; rfl) (by kernel_rfl) (by kernel_rfl) (by kernel_rfl) (by intro _ _ _ h; exact h) (Or.inl ⟨by rfl, ?hyb13⟩) hHeld ?restb13
            case hyb13 => (intro w hSw; (try dsimp only at hSw); go_simp; try (with_reducible rfl))
            simp only [Act.put, List.setIfInBounds_toArray, List.set_cons_zero, List.set_cons_succ]
            refine' wpAnyH_take (i := 18) (v := _) (by simp only [List.getElem?_toArray, List.getElem?_cons_succ, List.getElem?_cons_zero]; rfl) (by kernel_rfl) (by kernel_rfl) (by kernel_rfl) (by intro _ _ _ h; exact h) (Or.inl ⟨by rfl, ?hyb14⟩) hHeld ?restb14
            case hyb14 => (intro w hSw; (try dsimp only at hSw); go_simp; try (with_reducible rfl))
            simp only [Act.put, List.setIfInBounds_toArray, List.set_cons_zero, List.set_cons_succ]
            refine wpAnyH_ready (rs := [17]) (by kernel_rfl) (by simp) (AllReadyH.cons (by simp only [List.getElem?_toArray, List.getElem?_cons_succ, List.getElem?_cons_zero]; rfl) (fun K hK => ?_) AllReadyH.nil)
            rw [if_pos (by first | rfl | (simp [Region.wanted]; done) | kernel_rfl)]
            go_simp
            refine (msave (HM2.out.of (Q := Q2.nxt ib) (PS.kind_nxt _ _)) HS.out.z).mono ?_
            rintro e y ⟨rfl, ht⟩
            rw [HBK.out.2]
            replace HS := Lib.hid (HS.out.nope ht)
            clear ht
            refine hK.out _ _ ?_ (fun hHeld => ?_)
            · exact HS.out.boxes
            clear hK K
            try simp only [Act.put, List.setIfInBounds_toArray, List.set_cons_zero, List.set_cons_succ]
            refine wpAnyH_ready (rs := [19]) (by kernel_rfl) (by simp) (AllReadyH.cons (by simp only [List.getElem?_toArray, List.getElem?_cons_succ, List.getElem?_cons_zero]; rfl) (fun K hK => ?_) AllReadyH.nil)
            rw [if_pos (by first | rfl | (simp [Region.wanted]; done) | kernel_rfl)]
            go_simp
            refine (msave HM1.out HS.out.y).mono ?_
            rintro e y ⟨rfl, ht⟩
            rw [HSV.out]
            replace HS := Lib.hid (HS.out.nope ht)
            clear ht
            refine hK.out _ _ ?_ (fun hHeld => ?_)
            · exact HS.out.boxes
            clear hK K
            try simp only [Act.put, List.setIfInBounds_toArray, List.set_cons_zero, List.set_cons_succ]
            refine' wpAnyH_take (i := 20) (v := _) (by simp only [List.getElem?_toArray, List.getElem?_cons_succ, List.getElem?_cons_zero]; rfl) (by kernel_rfl) (by kernel_rfl) (by kernel_rfl) (by intro _ _ _ h; exact h) (Or.inl ⟨by rfl, ?hyb15⟩) hHeld ?restb15
            case hyb15 => (intro w hSw; (try dsimp only at hSw); go_simp; try (with_reducible rfl))
            simp only [Act.put, List.setIfInBounds_toArray, List.set_cons_zero, List.set_cons_succ]
            refine' wpAnyH_take (i := 21) (v := _) (by simp only [List.getElem?_toArray, List.getElem?_cons_succ, List.getElem?_cons_zero]; rfl) (by kernel_rfl) (by kernel_rfl) (by kernel_rfl) (by intro _ _ _ h; exact h) (Or.inl ⟨by rfl, ?hyb16⟩) hHeld ?restb16
            case hyb16 => (intro w hSw; (try dsimp only at hSw); go_simp; try (with_reducible rfl))
            simp only [Act.put, List.setIfInBounds_toArray, List.set_cons_zero, List.set_cons_succ]
            refine wpAnyH_done (by kernel_rfl) ?_ _
            exact ⟨rfl, HS.out.x, HS.out.tn⟩
          refine AtN.use ?_
          intro w12 hF
          clear HS h1 h2 h3 h4 h5 hfl s5
          have HF := Lib.hid hF
          clear hF
          go_wp2_with fail
          have hw := HWR.out
          go_wp2_with fail
          go_roundg (40 - (i + 1))
          case measure => have := hk.out; have := HI.out; omega
          case rel => exact ⟨i + 1, _, by go_num, by have := hk.out; have := HI.out; show _ = _; omega, by show _ = _; rw [PS.kind_nxt, HPK.out], HF.out⟩
        · have z1 : (E != 0) = true := by simpa using he
          have HN : Hid (P.nxt fo = P) := PS.none P fo (by rw [HER.out.1]; exact he)
          have h1 := HM.out.ms b
          have h2 := HM.out.es
          have h3 := HM.out.ms b1
          clear he
          go_wp2_with fail
          clear r0 r1
          refine (msave (HMP.out.of (Q := P.nxt fo) (PS.kind_nxt _ _)) HO8.out.1).mono ?_
          rintro e w9 ⟨rfl, ht⟩
          have HO9 := Lib.hid (And.intro (HO8.out.1.nope ht) (HO8.out.2.trans ht))
          have HY9 := Lib.hid (HY8.out.nope ht)
          obtain ⟨sv, hsv⟩ : ∃ s, (P.nxt fo).saved = s := ⟨_, rfl⟩
          have HSV : Hid (Q1.saved = sv) := by show _ = _; rw [HE1.out.saved, ← hsv, HN.out]
          rw [hsv]
          clear ht hsv HO8 HY8
          go_wp2_with fail
          refine (msave HM1.out HY9.out).mono ?_
          rintro e w10 ⟨rfl, ht⟩
          rw [HSV.out]
          have HO10 := Lib.hid (And.intro (HO9.out.1.nope ht) (HO9.out.2.trans ht))
          have s5 : (sv.toList != sv.toList) = false := by simp
          clear ht HO9 HY9 h1 h2 h3
          go_wp2_with fail
          have hw := HWR.out
          go_wp2_with fail
          go_roundg (40 - (i + 1))
          case measure => have := hk.out; have := HI.out; omega
          case rel => exact ⟨i + 1, _, by go_num, by have := hk.out; have := HI.out; show _ = _; omega, by show _ = _; rw [PS.kind_nxt, HPK.out], HO10.out⟩
      · have b2 : decide ((i : Int) < 40) = false := by simp; omega
        have b2n : decide (i < 40) = false := by simp; omega
        clear hlt h10
        go_wp2_with fail
        go_ret
        exact ⟨rfl, HW1.out.2.nopeBelow⟩
    · have b1 : decide ((i : Int) < (len : Int)) = false := by simp; omega
      have b1n : decide (i < len) = false := by simp; omega
      clear hlt
      go_wp2_with fail
      go_ret
      exact ⟨rfl, HW1.out.2.nopeBelow⟩
end Go.Proofs.Yteggenihjhclkaa
