/- An op of another kind changes nothing: the walk of ObjectKinds. -/
import Derived.Test.YteggenihjhclkaaOs
set_option maxRecDepth 16000
set_option linter.unusedVariables false
set_option linter.unusedSimpArgs false
namespace Go.Proofs.Yteggenihjhclkaa
open Go.RowKit Go.Maps
open Lg (Nm nmOf arr_nm nm_len)
variable {w0 w w' W W' : World} {b m c : Nat} {P Q R : PS}
theorem Op12.turn {ad : Addr} {i : Nat} {o : OOp} {m : Nat} (h : Op12 W ad i o) (hlo : ad.block < w.heap.size ∧ (ad.add (i * 12)).block = ad.block) (ht : Turn (At m) W W') (hm : w.heap.size ≤ m) : Op12 W' ad i o := by
  have hne : ad.block ≠ m := by omega
  have key : ∀ (p : Addr) (v : Value), p.block = ad.block → W.cell? p = some v → W'.cell? p = some v := fun p v hp hc => by
    have hlt : p.block < W.heap.size := World.block_lt_of_cell? W p hc
    have hb := ht.block p.block hlt (fun e => hne (by rw [← hp]; exact e))
    unfold World.cell? at hc ⊢
    rw [hb]
    exact hc
  obtain ⟨h0, h1, h2, h3, h4, h5, h6, h7, h8, h9, h10, h11⟩ := h
  exact ⟨key _ _ hlo.2 h0, key _ _ hlo.2 h1, key _ _ hlo.2 h2, key _ _ hlo.2 h3, key _ _ hlo.2 h4, key _ _ hlo.2 h5, key _ _ hlo.2 h6, key _ _ hlo.2 h7, key _ _ hlo.2 h8, key _ _ hlo.2 h9, key _ _ hlo.2 h10, key _ _ hlo.2 h11⟩
set_option maxHeartbeats 32000000 in
theorem kinds_walk (n : Int) (a : Option Addr) (len cap : Nat) (k0 tk ta : Int) (ts : ByteArray) (tn lk : Int) (ln lt : ByteArray) (la sk : Int) (sn : ByteArray) (sN : Int) (w : World) (hin : OpsIn w a len) :
    Calls Try.prog 4 #[.int .i64 n, .slice a len cap, .agg #[.int .i64 k0, .int .i64 tk, .int .i64 ta, .string ts, .int .i64 tn, .int .i64 lk, .string ln, .string lt, .int .i64 la, .int .i64 sk, .string sn, .int .i64 sN]] w fun e w' => e = .returned (.bool true) ∧ Below w.heap.size w w' := by
  have HIN := Lib.hid hin
  clear hin
  obtain ⟨oq, hoq⟩ : ∃ oq : OOp, oq = ⟨k0, tk, ta, ts, tn, lk, ln, lt, la, sk, sn, sN⟩ := ⟨_, rfl⟩
  have hcs : #[Value.int .i64 k0, .int .i64 tk, .int .i64 ta, .string ts, .int .i64 tn, .int .i64 lk, .string ln, .string lt, .int .i64 la, .int .i64 sk, .string sn, .int .i64 sN] = #[.int .i64 oq.k, .int .i64 oq.tk, .int .i64 oq.ta, .string oq.ts, .int .i64 oq.tn, .int .i64 oq.lk, .string oq.ln, .string oq.lt, .int .i64 oq.la, .int .i64 oq.sk, .string oq.sn, .int .i64 oq.sN] := by rw [hoq]
  rw [hcs]
  clear hcs hoq k0 tk ta ts tn lk ln lt la sk sn sN
  obtain ⟨k, hkn⟩ : ∃ k, kindN n = k := ⟨_, rfl⟩
  have HKN : Hid (kindN n = k ∧ (kindN (k : Int) : Int) ≠ (k : Int)) := by refine ⟨hkn, ?_⟩; rw [← hkn]; exact kindN_ne n
  have HK : Hid (1 ≤ k ∧ k ≤ 3) := by rw [← hkn]; exact ⟨(kindN_spec n).1, (kindN_spec n).2.1⟩
  clear hkn
  obtain ⟨T, FD, FS, FC, FK, hm⟩ := Mt.mk' (PS.new k)
  have HM := Lib.hid hm
  clear hm
  go_enter Try.func4, Try.ntmps4
  go_wp2_with fail
  have HX0 : Hid (OpBx (w.alloc (.cells #[.int .i64 oq.k, .int .i64 oq.tk, .int .i64 oq.ta, .string oq.ts, .int .i64 oq.tn, .int .i64 oq.lk, .string oq.ln, .string oq.lt, .int .i64 oq.la, .int .i64 oq.sk, .string oq.sn, .int .i64 oq.sN] 30)) w.heap.size oq) := blk_new _ _
  obtain ⟨q, hq⟩ : ∃ q, w.heap.size = q := ⟨_, rfl⟩
  have HQ : Hid (w.heap.size = q) := hq
  rw [hq] at HX0 ⊢
  clear hq
  refine (awake_any _).mono ?_
  rintro e w1 ⟨rfl, ht⟩
  have HT1 := Lib.hid (((Turn.refl Nope w).alloc (.cells #[.int .i64 oq.k, .int .i64 oq.tk, .int .i64 oq.ta, .string oq.ts, .int .i64 oq.tn, .int .i64 oq.lk, .string oq.ln, .string oq.lt, .int .i64 oq.la, .int .i64 oq.sk, .string oq.sn, .int .i64 oq.sN] 30)).trans ht)
  have HX1 : Hid (OpBx w1 q oq) := ht.blk HX0.out fun h => h
  clear ht HX0
  go_wp2_with fail
  refine (okind_any n w1).mono ?_
  rintro e w2 ⟨rfl, rfl⟩
  rw [HKN.out.1]
  go_wp2_with fail
  refine (onewk k HK.out HM.out w2).mono ?_
  rintro e w3 ⟨b, m, rfl, hob, ht⟩
  have HW0 : Hid (Ob w w3 b m (1 + 2 * 0) (PS.new k) ∧ Turn Nope w w3 ∧ OpBx w3 q oq) := ⟨hob.low HT1.out.size, HT1.out.trans ht, ht.blk HX1.out fun h => h⟩
  have HQB : Hid (q ≠ b) := by have h1 := hob.lo.1; have h2 := blk_lt HX1.out; exact (by omega : q ≠ b)
  have HQM : Hid (q ≠ m) := by have h1 := hob.lo.2; have h2 := blk_lt HX1.out; exact (by omega : q ≠ m)
  clear hob ht HT1 HX1
  go_upto_region 5 with fail
  go_upto_block 0 with fail
  go_cut [8] from 17 to 36 (fun v8 wr => ∃ (c : Nat) (P : PS), Hid (c ≤ 40 ∧ P.kind = (PS.new k).kind) ∧ Hid (Ob w wr b m c P ∧ Turn Nope w wr ∧ OpBx wr q oq))
  case first =>
    go_wp2_with fail
    go_loopg [8] 10 (fun kk v8 wr => ∃ (i : Nat) (P : PS), v8 = .int .i64 (i : Int) ∧ Hid (kk + i = 10) ∧ Hid (P.kind = (PS.new k).kind) ∧ Hid (Ob w wr b m (1 + 2 * i) P ∧ Turn Nope w wr ∧ OpBx wr q oq))
    case atStart => exact ⟨0, _, rfl, rfl, rfl, HW0.out⟩
    case round =>
      obtain ⟨i, P, rfl, hk, HPK, HW1⟩ := hrel
      clear HW0
      have hw : wrap64 ((i : Int) + 1) = (i : Int) + 1 := IntWalk.wrap64_in _ ⟨by have := hk.out; omega, by have := hk.out; omega⟩
      have HWR := Lib.hid hw
      clear hw
      by_cases hlt : i < len
      · have b1 : decide ((i : Int) < (len : Int)) = true := by simp; omega
        have b1n : decide (i < len) = true := by simp; omega
        by_cases h10 : i < 10
        · have b2 : decide ((i : Int) < 10) = true := by simp; omega
          have b2n : decide (i < 10) = true := by simp; omega
          obtain ⟨ad, o, rfl, hsz, hc⟩ := HIN.out.cells hlt
          have HC := Lib.hid (hc.later HW1.out.2.1.nopeBelow)
          have HCLO : Hid (ad.block < w.heap.size ∧ (ad.add (i * 12)).block = ad.block) := by
            have h0 := World.block_lt_of_cell? w _ hc.1
            have h1 : (ad.add (i * 12)).block = ad.block := by
              unfold Addr.add
              split <;> rfl
            rw [h1] at h0
            exact ⟨h0, h1⟩
          have i0 : (0 : Int) ≤ (i : Int) := by omega
          have i1 : (i : Int) < (len : Int) := by omega
          have HI := Lib.hid h10
          clear hlt h10 hsz hc
          go_upto_region 8 with fail
          have hna := HM.out.na b
          have h1 := HM.out.md b
          have h2 := HM.out.ed
          refine wp_region_held_drew (S := fun W => Op12 W ad i o) (by kernel_rfl) (HC.out.later (Turn.refl Nope _).drew.nopeBelow) (fun hHeld => ?_)
          refine' wpAnyH_take (i := 0) (v := _) (by simp only [List.getElem?_toArray, List.getElem?_cons_succ, List.getElem?_cons_zero]; rfl) (by kernel_rfl) (by kernel_rfl) (by kernel_rfl) (by intro _ _ _ h; exact h) (Or.inl ⟨by rfl, ?hyk0⟩) hHeld ?restk0
          case hyk0 => (intro w hSw; (obtain ⟨s0, s1, s2, s3, s4, s5, s6, s7, s8, s9, s10, s11⟩ := hSw); go_simp; try (with_reducible rfl))
          simp only [Act.put, List.setIfInBounds_toArray, List.set_cons_zero, List.set_cons_succ]
          refine' wpAnyH_take (i := 1) (v := _) (by simp only [List.getElem?_toArray, List.getElem?_cons_succ, List.getElem?_cons_zero]; rfl) (by kernel_rfl) (by kernel_rfl) (by kernel_rfl) (by intro _ _ _ h; exact h) (Or.inl ⟨by rfl, ?hyk1⟩) hHeld ?restk1
          case hyk1 => (intro w hSw; (obtain ⟨s0, s1, s2, s3, s4, s5, s6, s7, s8, s9, s10, s11⟩ := hSw); go_simp; try (with_reducible rfl))
          simp only [Act.put, List.setIfInBounds_toArray, List.set_cons_zero, List.set_cons_succ]
          refine' wpAnyH_take (i := 2) (v := _) (by simp only [List.getElem?_toArray, List.getElem?_cons_succ, List.getElem?_cons_zero]; rfl) (by kernel_rfl) (by kernel_rfl) (by kernel_rfl) (by intro _ _ _ h; exact h) (Or.inl ⟨by rfl, ?hyk2⟩) hHeld ?restk2
          case hyk2 => (intro w hSw; (obtain ⟨s0, s1, s2, s3, s4, s5, s6, s7, s8, s9, s10, s11⟩ := hSw); go_simp; try (with_reducible rfl))
          simp only [Act.put, List.setIfInBounds_toArray, List.set_cons_zero, List.set_cons_succ]
          refine' wpAnyH_take (i := 3) (v := _) (by simp only [List.getElem?_toArray, List.getElem?_cons_succ, List.getElem?_cons_zero]; rfl) (by kernel_rfl) (by kernel_rfl) (by kernel_rfl) (by intro _ _ _ h; exact h) (Or.inl ⟨by rfl, ?hyk3⟩) hHeld ?restk3
          case hyk3 => (intro w hSw; (obtain ⟨s0, s1, s2, s3, s4, s5, s6, s7, s8, s9, s10, s11⟩ := hSw); go_simp; try (with_reducible rfl))
          simp only [Act.put, List.setIfInBounds_toArray, List.set_cons_zero, List.set_cons_succ]
          refine' wpAnyH_take (i := 4) (v := _) (by simp only [List.getElem?_toArray, List.getElem?_cons_succ, List.getElem?_cons_zero]; rfl) (by kernel_rfl) (by kernel_rfl) (by kernel_rfl) (by intro _ _ _ h; exact h) (Or.inl ⟨by rfl, ?hyk4⟩) hHeld ?restk4
          case hyk4 => (intro w hSw; (obtain ⟨s0, s1, s2, s3, s4, s5, s6, s7, s8, s9, s10, s11⟩ := hSw); go_simp; try (with_reducible rfl))
          simp only [Act.put, List.setIfInBounds_toArray, List.set_cons_zero, List.set_cons_succ]
          refine' wpAnyH_take (i := 6) (v := _) (by simp only [List.getElem?_toArray, List.getElem?_cons_succ, List.getElem?_cons_zero]; rfl) (by kernel_rfl) (by kernel_rfl) (by kernel_rfl) (by intro _ _ _ h; exact h) (Or.inl ⟨by rfl, ?hyk6⟩) hHeld ?restk6
          case hyk6 => (intro w hSw; (obtain ⟨s0, s1, s2, s3, s4, s5, s6, s7, s8, s9, s10, s11⟩ := hSw); go_simp; try (with_reducible rfl))
          simp only [Act.put, List.setIfInBounds_toArray, List.set_cons_zero, List.set_cons_succ]
          refine' wpAnyH_take (i := 7) (v := _) (by simp only [List.getElem?_toArray, List.getElem?_cons_succ, List.getElem?_cons_zero]; rfl) (by kernel_rfl) (by kernel_rfl) (by kernel_rfl) (by intro _ _ _ h; exact h) (Or.inl ⟨by rfl, ?hyk7⟩) hHeld ?restk7
          case hyk7 => (intro w hSw; (obtain ⟨s0, s1, s2, s3, s4, s5, s6, s7, s8, s9, s10, s11⟩ := hSw); go_simp; try (with_reducible rfl))
          simp only [Act.put, List.setIfInBounds_toArray, List.set_cons_zero, List.set_cons_succ]
          refine' wpAnyH_take (i := 8) (v := _) (by simp only [List.getElem?_toArray, List.getElem?_cons_succ, List.getElem?_cons_zero]; rfl) (by kernel_rfl) (by kernel_rfl) (by kernel_rfl) (by intro _ _ _ h; exact h) (Or.inl ⟨by rfl, ?hyk8⟩) hHeld ?restk8
          case hyk8 => (intro w hSw; (obtain ⟨s0, s1, s2, s3, s4, s5, s6, s7, s8, s9, s10, s11⟩ := hSw); go_simp; try (with_reducible rfl))
          simp only [Act.put, List.setIfInBounds_toArray, List.set_cons_zero, List.set_cons_succ]
          refine wpAnyH_ready (rs := [5]) (by kernel_rfl) (by simp) (AllReadyH.cons (by simp only [List.getElem?_toArray, List.getElem?_cons_succ, List.getElem?_cons_zero]; rfl) (fun K hK => ?_) AllReadyH.nil)
          rw [if_pos (by simp [Region.wanted])]
          go_simp
          refine (few_any o _).mono ?_
          rintro e y1 ⟨rfl, ht⟩
          have HF1 := Lib.hid (And.intro (HW1.out.1.nope (((Turn.refl _ _).drew).trans ht)) (And.intro (HW1.out.2.1.trans (((Turn.refl _ _).drew).trans ht)) (And.intro (HC.out.later ((((Turn.refl Nope _).drew).trans ht).nopeBelow)) (show OpBx y1 q oq from (((Turn.refl Nope _).drew).trans ht).blk HW1.out.2.2 fun h => h))))
          clear ht
          refine hK.out _ _ ?_ (fun hHeld => ?_)
          · exact HF1.out.2.2.1
          clear hK K
          try simp only [Act.put, List.setIfInBounds_toArray, List.set_cons_zero, List.set_cons_succ]
          refine wpAnyH_ready (rs := [9]) (by kernel_rfl) (by simp) (AllReadyH.cons (by simp only [List.getElem?_toArray, List.getElem?_cons_succ, List.getElem?_cons_zero]; rfl) (fun K hK => ?_) AllReadyH.nil)
          rw [if_pos (by simp [Region.wanted])]
          go_simp
          refine (mdo (HM.out.of (Q := P) HPK.out) HF1.out.1 (few o) (few_sz o) (by have := hk.out; omega)).mono ?_
          rintro e y2 ⟨rfl, hob, ht⟩
          have HF2 := Lib.hid (And.intro hob (And.intro (HF1.out.2.1.then ht fun j hj => .inr (by rw [show j = m from hj]; exact HF1.out.1.lo.2)) (And.intro (Op12.turn HF1.out.2.2.1 HCLO.out ht HF1.out.1.lo.2) (show OpBx y2 q oq from ht.blk HF1.out.2.2.2 (fun e => HQM.out e)))))
          clear hob ht
          refine hK.out _ _ ?_ (fun hHeld => ?_)
          · exact HF2.out.2.2.1
          clear hK K
          try simp only [Act.put, List.setIfInBounds_toArray, List.set_cons_zero, List.set_cons_succ]
          refine wpAnyH_done (by kernel_rfl) ?_ _
          clear hna h1 h2 i0 i1 b1 b1n b2 b2n
          have hw := HWR.out
          go_wp2_with fail
          go_roundg (10 - (i + 1))
          case measure => have := hk.out; have := HI.out; omega
          case rel => exact ⟨i + 1, _, by go_num, by have := hk.out; have := HI.out; show _ = _; omega, by show _ = _; rw [PS.kind_nxt, HPK.out], HF2.out.1, HF2.out.2.1, HF2.out.2.2.2⟩
        · have b2 : decide ((i : Int) < 10) = false := by simp; omega
          have b2n : decide (i < 10) = false := by simp; omega
          have hc40 : 1 + 2 * i ≤ 40 := by have := hk.out; omega
          clear hlt h10
          go_wp2_with fail
          go_meet
          exact ⟨_, P, ⟨hc40, HPK.out⟩, HW1.out⟩
      · have b1 : decide ((i : Int) < (len : Int)) = false := by simp; omega
        have b1n : decide (i < len) = false := by simp; omega
        have hc40 : 1 + 2 * i ≤ 40 := by have := hk.out; omega
        clear hlt
        go_wp2_with fail
        go_meet
        exact ⟨_, P, ⟨hc40, HPK.out⟩, HW1.out⟩
  case rest =>
    obtain ⟨c, P, hn, HW1⟩ := hcut
    have HPK : Hid (P.kind = (PS.new k).kind) := hn.out.2
    have HC40 := Lib.hid hn.out.1
    have hc40 := hn.out.1
    clear HW0 hn
    have h1 := HM.out.ms b
    have h2 := HM.out.es
    go_wp2_with fail
    clear h1 h2
    refine (msave (HM.out.of (Q := P) HPK.out) HW1.out.1).mono ?_
    rintro e w4 ⟨rfl, ht⟩
    have HB4 := Lib.hid (And.intro (HW1.out.1.nope ht) (HW1.out.2.1.trans ht))
    have HX4 : Hid (OpBx w4 q oq) := ht.blk HW1.out.2.2 fun h => h
    obtain ⟨was, hwas⟩ : ∃ was, P.saved = was := ⟨_, rfl⟩
    have HWAS := Lib.hid hwas
    rw [hwas]
    clear ht hwas HW1
    obtain ⟨⟨c0, c1, c2, c3, c4, c5, c6, c7, c8, c9, c10, c11⟩, f0, f1, f2, f3, f4, f5, f6, f7, f8, f9, f10, f11⟩ := HX4.out.cells
    go_wp2_with fail
    clear c0 f0 c1 f1 c2 f2 c3 f3 c4 f4 c5 f5 c6 f6 c7 f7 c8 f8 c9 f9 c10 f10 c11 f11
    refine (few_any oq w4).mono ?_
    rintro e w5 ⟨rfl, ht⟩
    have HB5 := Lib.hid (And.intro (HB4.out.1.nope ht) (HB4.out.2.trans ht))
    have HX5 : Hid (OpBx w5 q oq) := ht.blk HX4.out fun h => h
    clear ht HB4 HX4
    have hcs : opC (few oq) = #[.int .i64 (few oq).k, .int .i64 (few oq).tk, .int .i64 (few oq).ta, .string (few oq).ts, .int .i64 (few oq).tn, .int .i64 (few oq).lk, .string (few oq).ln, .string (few oq).lt, .int .i64 (few oq).la, .int .i64 (few oq).sk, .string (few oq).sn, .int .i64 (few oq).sN] := rfl
    rw [hcs]
    clear hcs
    obtain ⟨fq, hfq⟩ : ∃ fq, few oq = fq := ⟨_, rfl⟩
    have HFQ : Hid (fq.ln.size ≤ maxLen ∧ fq.lt.size ≤ maxLen ∧ fq.sn.size ≤ maxLen) := by rw [← hfq]; exact few_sz oq
    rw [hfq]
    clear hfq
    obtain ⟨⟨c0, c1, c2, c3, c4, c5, c6, c7, c8, c9, c10, c11⟩, f0, f1, f2, f3, f4, f5, f6, f7, f8, f9, f10, f11⟩ := HX5.out.cells
    go_upto_region 11 with fail
    clear c0 f0 c1 f1 c2 f2 c3 f3 c4 f4 c5 f5 c6 f6 c7 f7 c8 f8 c9 f9 c10 f10 c11 f11
    have HX6 := Lib.hid (show OpBx _ q fq from blk_put12 (v0 := .int .i64 fq.k) (v1 := .int .i64 fq.tk) (v2 := .int .i64 fq.ta) (v3 := .string fq.ts) (v4 := .int .i64 fq.tn) (v5 := .int .i64 fq.lk) (v6 := .string fq.ln) (v7 := .string fq.lt) (v8 := .int .i64 fq.la) (v9 := .int .i64 fq.sk) (v10 := .string fq.sn) (v11 := .int .i64 fq.sN) HX5.out)
    have HTQ : Hid (w.heap.size ≤ q) := Nat.le_of_eq HQ.out
    have HT6 := Lib.hid (turn_put12 (Turn.refl (At q) w5) (g := q) (.inl rfl) (.int .i64 fq.k) (.int .i64 fq.tk) (.int .i64 fq.ta) (.string fq.ts) (.int .i64 fq.tn) (.int .i64 fq.lk) (.string fq.ln) (.string fq.lt) (.int .i64 fq.la) (.int .i64 fq.sk) (.string fq.sn) (.int .i64 fq.sN))
    have HB6 := Lib.hid (And.intro (HB5.out.1.turn HT6.out (fun e => HQB.out (show b = q from e).symm) (fun e => HQM.out (show m = q from e).symm)) (HB5.out.2.then HT6.out fun j hj => .inr (by rw [show j = q from hj]; exact HTQ.out)))
    generalize hgw : ((((((((((((w5.setCell ⟨q, 0, none⟩ (.int .i64 fq.k)).setCell ⟨q, 1, none⟩ (.int .i64 fq.tk)).setCell ⟨q, 2, none⟩ (.int .i64 fq.ta)).setCell ⟨q, 3, none⟩ (.string fq.ts)).setCell ⟨q, 4, none⟩ (.int .i64 fq.tn)).setCell ⟨q, 5, none⟩ (.int .i64 fq.lk)).setCell ⟨q, 6, none⟩ (.string fq.ln)).setCell ⟨q, 7, none⟩ (.string fq.lt)).setCell ⟨q, 8, none⟩ (.int .i64 fq.la)).setCell ⟨q, 9, none⟩ (.int .i64 fq.sk)).setCell ⟨q, 10, none⟩ (.string fq.sn)).setCell ⟨q, 11, none⟩ (.int .i64 fq.sN)) = w6 at HX6 HT6 HB6 ⊢
    clear HB5 HX5 HT6 hgw
    have c0 := HX6.out.cells.1.1
    by_cases hk0 : fq.k = (k : Int)
    · have hb1 : (fq.k == (k : Int)) = true := by simpa using hk0
      clear hk0
      go_wp2_with fail
      clear hb1
      refine (okind_any (k : Int) w6).mono ?_
      rintro e w7 ⟨rfl, rfl⟩
      have f0 := HX6.out.cells.2.1
      go_upto_region 13 with fail
      clear c0 f0
      obtain ⟨o2, ho2⟩ : ∃ o2 : OOp, o2 = { fq with k := (kindN (k : Int) : Int) } := ⟨_, rfl⟩
      have HX7 : Hid (OpBx (w7.setCell ⟨q, 0, none⟩ (.int .i64 (kindN (k : Int) : Int))) q o2) := by
        have := blk_set HX6.out 0 (.int .i64 (kindN (k : Int) : Int))
        show _ = _
        rw [ho2]
        simpa [opC] using this
      have HT7 : Hid (Turn (At q) w7 (w7.setCell ⟨q, 0, none⟩ (.int .i64 (kindN (k : Int) : Int)))) := Turn.setCell (p := ⟨q, 0, none⟩) (Turn.refl (At q) w7) (.inl rfl) _
      have HB7 := Lib.hid (And.intro (HB6.out.1.turn HT7.out (fun e => HQB.out (show b = q from e).symm) (fun e => HQM.out (show m = q from e).symm)) (HB6.out.2.then HT7.out fun j hj => .inr (by rw [show j = q from hj]; exact HTQ.out)))
      have HO2 : Hid ((o2.ln.size ≤ maxLen ∧ o2.lt.size ≤ maxLen ∧ o2.sn.size ≤ maxLen) ∧ o2.k ≠ (k : Int)) := by rw [ho2]; exact ⟨HFQ.out, HKN.out.2⟩
      generalize w7.setCell ⟨q, 0, none⟩ (.int .i64 (kindN (k : Int) : Int)) = w8 at HX7 HT7 HB7 ⊢
      clear HX6 HB6 HT7 ho2
      have c0 := HX7.out.cells.1.1
      have hb1 : (o2.k == (k : Int)) = false := by simpa using HO2.out.2
      go_upto_region 15 with fail
      clear c0 hb1
      obtain ⟨⟨c0, c1, c2, c3, c4, c5, c6, c7, c8, c9, c10, c11⟩, f0, f1, f2, f3, f4, f5, f6, f7, f8, f9, f10, f11⟩ := HX7.out.cells
      have h1 := HM.out.md b
      have h2 := HM.out.ed
      go_wp2_with fail
      clear c0 f0 c1 f1 c2 f2 c3 f3 c4 f4 c5 f5 c6 f6 c7 f7 c8 f8 c9 f9 c10 f10 c11 f11
      refine (mdo (HM.out.of (Q := P) HPK.out) HB7.out.1 o2 HO2.out.1 (by omega)).mono ?_
      rintro e x1 ⟨rfl, hob, ht⟩
      have hwr := PS.wrong P o2 (by rw [HPK.out, PS.kind_new k HK.out.1 HK.out.2]; exact HO2.out.2)
      unfold resV
      rw [hwr.1, hwr.2.1]
      rw [hwr.2.2] at hob
      have HB1 := Lib.hid (And.intro hob (HB7.out.2.then ht fun j hj => .inr (by rw [show j = m from hj]; exact HB7.out.1.lo.2)))
      have HX1 : Hid (OpBx x1 q o2) := ht.blk HX7.out (fun e => HQM.out e)
      clear hob ht hwr h1 h2
      go_upto_region 16 with fail
      have HR2 := Lib.hid (blk_new x1 (.cells #[.int .i64 5, .string ⟨#[]⟩] 47))
      have HB2 := Lib.hid (And.intro (HB1.out.1.nope ((Turn.refl _ _).alloc (.cells #[.int .i64 5, .string ⟨#[]⟩] 47))) (HB1.out.2.alloc (.cells #[.int .i64 5, .string ⟨#[]⟩] 47)))
      have HX2 : Hid (OpBx (x1.alloc (.cells #[.int .i64 5, .string ⟨#[]⟩] 47)) q o2) := blk_alloc HX1.out _
      generalize x1.alloc (.cells #[.int .i64 5, .string ⟨#[]⟩] 47) = x2 at HR2 HB2 HX2 ⊢
      generalize x1.heap.size = r at HR2 ⊢
      clear HB1 HX1
      have r0 := blk_cell HR2.out 0
      have r1 := blk_cell HR2.out 1
      simp only [List.getElem?_toArray, List.getElem?_cons_zero, List.getElem?_cons_succ] at r0 r1
      have h1 := HM.out.ms b
      have h2 := HM.out.es
      go_wp2_with fail
      clear r0 r1 h1 h2
      refine (msave (HM.out.of (Q := P) HPK.out) HB2.out.1).mono ?_
      rintro e x3 ⟨rfl, ht⟩
      rw [HWAS.out]
      have s5 : (was.toList == was.toList) = true := by simp
      have HB3 := Lib.hid (And.intro (HB2.out.1.nope ht) (HB2.out.2.trans ht))
      have HX3 : Hid (OpBx x3 q o2) := ht.blk HX2.out fun h => h
      clear ht HB2 HX2 HR2
      obtain ⟨⟨c0, c1, c2, c3, c4, c5, c6, c7, c8, c9, c10, c11⟩, f0, f1, f2, f3, f4, f5, f6, f7, f8, f9, f10, f11⟩ := HX3.out.cells
      go_wp2_with fail
      clear c0 f0 c1 f1 c2 f2 c3 f3 c4 f4 c5 f5 c6 f6 c7 f7 c8 f8 c9 f9 c10 f10 c11 f11
      clear s5
      refine (ocheck_wrong o2 (k : Int) HO2.out.2 x3).mono ?_
      rintro e x4 ⟨rfl, ht⟩
      have HB4 := Lib.hid (And.intro (HB3.out.1.nope ht) (HB3.out.2.trans ht))
      clear ht HB3 HX3
      go_wp2_with fail
      refine (onewk k HK.out HM.out x4).mono ?_
      rintro e x5 ⟨b2, m2, rfl, hob, ht⟩
      have HB5 := Lib.hid (And.intro (HB4.out.1.nope ht) (HB4.out.2.trans ht))
      have HN5 := Lib.hid hob
      clear hob ht HB4
      have h1 := HM.out.ms b2
      have h2 := HM.out.es
      go_wp2_with fail
      clear h1 h2
      refine (msave HM.out HN5.out).mono ?_
      rintro e x6 ⟨rfl, ht⟩
      rw [saved_new]
      have HB6 := Lib.hid (And.intro (HB5.out.1.nope ht) (HB5.out.2.trans ht))
      clear ht HB5 HN5
      have h1 := HM.out.mk1 b
      have h2 := HM.out.ek
      go_wp2_with fail
      clear h1 h2
      refine (mkind (HM.out.of (Q := P) HPK.out) b x6).mono ?_
      rintro e x7 ⟨rfl, ht⟩
      rw [HPK.out, PS.kind_new k HK.out.1 HK.out.2]
      have HT7 := Lib.hid (HB6.out.2.trans ht)
      clear ht HB6
      have hkk : ((k : Int) == (k : Int)) = true := by simp
      go_wp2_with fail
      go_ret
      exact ⟨rfl, HT7.out.nopeBelow⟩
    · have hb1 : (fq.k == (k : Int)) = false := by simpa using hk0
      have HO2 : Hid ((fq.ln.size ≤ maxLen ∧ fq.lt.size ≤ maxLen ∧ fq.sn.size ≤ maxLen) ∧ fq.k ≠ (k : Int)) := ⟨HFQ.out, hk0⟩
      clear hk0
      go_upto_region 15 with fail
      clear c0 hb1
      obtain ⟨⟨c0, c1, c2, c3, c4, c5, c6, c7, c8, c9, c10, c11⟩, f0, f1, f2, f3, f4, f5, f6, f7, f8, f9, f10, f11⟩ := HX6.out.cells
      have h1 := HM.out.md b
      have h2 := HM.out.ed
      go_wp2_with fail
      clear c0 f0 c1 f1 c2 f2 c3 f3 c4 f4 c5 f5 c6 f6 c7 f7 c8 f8 c9 f9 c10 f10 c11 f11
      refine (mdo (HM.out.of (Q := P) HPK.out) HB6.out.1 fq HO2.out.1 (by omega)).mono ?_
      rintro e x1 ⟨rfl, hob, ht⟩
      have hwr := PS.wrong P fq (by rw [HPK.out, PS.kind_new k HK.out.1 HK.out.2]; exact HO2.out.2)
      unfold resV
      rw [hwr.1, hwr.2.1]
      rw [hwr.2.2] at hob
      have HB1 := Lib.hid (And.intro hob (HB6.out.2.then ht fun j hj => .inr (by rw [show j = m from hj]; exact HB6.out.1.lo.2)))
      have HX1 : Hid (OpBx x1 q fq) := ht.blk HX6.out (fun e => HQM.out e)
      clear hob ht hwr h1 h2
      go_upto_region 16 with fail
      have HR2 := Lib.hid (blk_new x1 (.cells #[.int .i64 5, .string ⟨#[]⟩] 47))
      have HB2 := Lib.hid (And.intro (HB1.out.1.nope ((Turn.refl _ _).alloc (.cells #[.int .i64 5, .string ⟨#[]⟩] 47))) (HB1.out.2.alloc (.cells #[.int .i64 5, .string ⟨#[]⟩] 47)))
      have HX2 : Hid (OpBx (x1.alloc (.cells #[.int .i64 5, .string ⟨#[]⟩] 47)) q fq) := blk_alloc HX1.out _
      generalize x1.alloc (.cells #[.int .i64 5, .string ⟨#[]⟩] 47) = x2 at HR2 HB2 HX2 ⊢
      generalize x1.heap.size = r at HR2 ⊢
      clear HB1 HX1
      have r0 := blk_cell HR2.out 0
      have r1 := blk_cell HR2.out 1
      simp only [List.getElem?_toArray, List.getElem?_cons_zero, List.getElem?_cons_succ] at r0 r1
      have h1 := HM.out.ms b
      have h2 := HM.out.es
      go_wp2_with fail
      clear r0 r1 h1 h2
      refine (msave (HM.out.of (Q := P) HPK.out) HB2.out.1).mono ?_
      rintro e x3 ⟨rfl, ht⟩
      rw [HWAS.out]
      have s5 : (was.toList == was.toList) = true := by simp
      have HB3 := Lib.hid (And.intro (HB2.out.1.nope ht) (HB2.out.2.trans ht))
      have HX3 : Hid (OpBx x3 q fq) := ht.blk HX2.out fun h => h
      clear ht HB2 HX2 HR2
      obtain ⟨⟨c0, c1, c2, c3, c4, c5, c6, c7, c8, c9, c10, c11⟩, f0, f1, f2, f3, f4, f5, f6, f7, f8, f9, f10, f11⟩ := HX3.out.cells
      go_wp2_with fail
      clear c0 f0 c1 f1 c2 f2 c3 f3 c4 f4 c5 f5 c6 f6 c7 f7 c8 f8 c9 f9 c10 f10 c11 f11
      clear s5
      refine (ocheck_wrong fq (k : Int) HO2.out.2 x3).mono ?_
      rintro e x4 ⟨rfl, ht⟩
      have HB4 := Lib.hid (And.intro (HB3.out.1.nope ht) (HB3.out.2.trans ht))
      clear ht HB3 HX3
      go_wp2_with fail
      refine (onewk k HK.out HM.out x4).mono ?_
      rintro e x5 ⟨b2, m2, rfl, hob, ht⟩
      have HB5 := Lib.hid (And.intro (HB4.out.1.nope ht) (HB4.out.2.trans ht))
      have HN5 := Lib.hid hob
      clear hob ht HB4
      have h1 := HM.out.ms b2
      have h2 := HM.out.es
      go_wp2_with fail
      clear h1 h2
      refine (msave HM.out HN5.out).mono ?_
      rintro e x6 ⟨rfl, ht⟩
      rw [saved_new]
      have HB6 := Lib.hid (And.intro (HB5.out.1.nope ht) (HB5.out.2.trans ht))
      clear ht HB5 HN5
      have h1 := HM.out.mk1 b
      have h2 := HM.out.ek
      go_wp2_with fail
      clear h1 h2
      refine (mkind (HM.out.of (Q := P) HPK.out) b x6).mono ?_
      rintro e x7 ⟨rfl, ht⟩
      rw [HPK.out, PS.kind_new k HK.out.1 HK.out.2]
      have HT7 := Lib.hid (HB6.out.2.trans ht)
      clear ht HB6
      have hkk : ((k : Int) == (k : Int)) = true := by simp
      go_wp2_with fail
      go_ret
      exact ⟨rfl, HT7.out.nopeBelow⟩
end Go.Proofs.Yteggenihjhclkaa
