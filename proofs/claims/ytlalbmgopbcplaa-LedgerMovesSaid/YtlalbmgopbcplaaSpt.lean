/- What is moved in two parts: the walk of LedgerMoves. -/
import Derived.Test.YtlalbmgopbcplaaSpp
set_option maxRecDepth 16000
set_option linter.unusedVariables false
set_option linter.unusedSimpArgs false
namespace Go.Proofs.Ytlalbmgopbcplaa
open Go.RowKit Go.Maps
theorem and65535 (a : Int) : 0 ≤ bits .and .i64 a 65535 ∧ bits .and .i64 a 65535 ≤ 65535 := by
  have h : (BitVec.ofInt 64 a &&& BitVec.ofInt 64 65535).toNat ≤ 65535 := by
    rw [BitVec.toNat_and]
    exact Nat.le_trans Nat.and_le_right (by decide)
  show 0 ≤ IntKind.i64.wrap ((BitVec.ofInt 64 a &&& BitVec.ofInt 64 65535).toNat : Int) ∧ IntKind.i64.wrap ((BitVec.ofInt 64 a &&& BitVec.ofInt 64 65535).toNat : Int) ≤ 65535
  rw [IntKind.wrap_i64]
  omega
set_option maxHeartbeats 32000000 in
theorem moves_walk (p : Option Addr) (len cap : Nat) (a b : Int) (w : World) (hin : OpsIn w p len) :
    Calls Try.prog 5 #[.slice p len cap, .int .i64 a, .int .i64 b] w fun e w' => e = .returned (.bool true) ∧ Below w.heap.size w w' := by
  have HIN := Lib.hid hin
  clear hin
  obtain ⟨A0, hA0⟩ : ∃ A0, bits .and .i64 a 65535 = A0 := ⟨_, rfl⟩
  obtain ⟨B0, hB0⟩ : ∃ B0, bits .and .i64 b 65535 = B0 := ⟨_, rfl⟩
  have hAr := and65535 a
  have hBr := and65535 b
  rw [hA0] at hAr
  rw [hB0] at hBr
  obtain ⟨A, hA⟩ : ∃ A, 1 + A0 = A := ⟨_, rfl⟩
  obtain ⟨B, hB⟩ : ∃ B, 1 + B0 = B := ⟨_, rfl⟩
  have HAB : Hid (1 ≤ A ∧ A ≤ 65536 ∧ 1 ≤ B ∧ B ≤ 65536) := ⟨by omega, by omega, by omega, by omega⟩
  have hwa : wrap64 (1 + A0) = A := by rw [hA]; exact IntWalk.wrap64_in _ ⟨by omega, by omega⟩
  have hwb : wrap64 (1 + B0) = B := by rw [hB]; exact IntWalk.wrap64_in _ ⟨by omega, by omega⟩
  have hwa' : IntKind.i64.wrap (1 + A0) = A := by rw [hA]; exact IntWalk.i64_in _ ⟨by omega, by omega⟩
  have hwb' : IntKind.i64.wrap (1 + B0) = B := by rw [hB]; exact IntWalk.i64_in _ ⟨by omega, by omega⟩
  have HWA := Lib.hid (And.intro hA0 (And.intro hB0 (And.intro hwa (And.intro hwb (And.intro hwa' hwb')))))
  clear hA0 hB0 hAr hBr hA hB hwa hwb hwa' hwb'
  go_enter Try.func5, Try.ntmps5
  go_wp2_with fail
  refine (awake_any _).mono ?_
  rintro e w1 ⟨rfl, ht⟩
  have HT1 := Lib.hid ht
  clear ht
  have hA0 := HWA.out.1
  have hB0 := HWA.out.2.1
  have hwa := HWA.out.2.2.1
  have hwb := HWA.out.2.2.2.1
  have hwa' := HWA.out.2.2.2.2.1
  have hwb' := HWA.out.2.2.2.2.2
  go_wp2_with fail
  clear hA0 hB0 hwa hwb hwa' hwb'
  refine (new_any w w1 HT1.out).mono ?_
  rintro e w3 ⟨s, mb, rfl, hs, h1, h2, ht⟩
  have HP0 : Hid (PX w w3 s mb 1 (fun _ => 0) [[]]) := ⟨hs, HT1.out.trans ht, by decide⟩
  clear hs h1 h2 ht HT1
  go_upto_region 5 with fail
  go_upto_block 0 with fail
  go_cut [8] from 26 to 42 (fun v8 wr => ∃ (n : Nat) (C : Nm → Int) (KL : List Nm), Hid (n ≤ 41 ∧ PX w wr s mb n C KL))
  case first =>
    go_wp2_with fail
    go_loopg [8] 20 (fun k v8 wr => ∃ (i : Nat) (C : Nm → Int) (KL : List Nm), v8 = .int .i64 (i : Int) ∧ Hid (k + i = 20) ∧ Hid (PX w wr s mb (1 + 2 * i) C KL))
    case atStart => exact ⟨0, _, _, rfl, rfl, HP0.out⟩
    case round =>
      obtain ⟨j, C, KL, rfl, hj, HP⟩ := hrel
      clear HP0
      have hw : wrap64 ((j : Int) + 1) = (j : Int) + 1 := IntWalk.wrap64_in _ ⟨by have := hj.out; omega, by have := hj.out; omega⟩
      have HWR := Lib.hid hw
      clear hw
      by_cases hlt : j < len
      · have b1 : decide ((j : Int) < (len : Int)) = true := by simp; omega
        have b1n : decide (j < len) = true := by simp; omega
        by_cases h14 : j < 20
        · have b2 : decide ((j : Int) < 20) = true := by simp; omega
          have b2n : decide (j < 20) = true := by simp; omega
          obtain ⟨ad, k, S1, U1, N, rfl, hS1, c0, c1, c2, c3⟩ := (HIN.out.later HP.out.tn.nopeBelow).2 j hlt
          have i0 : (0 : Int) ≤ (j : Int) := by omega
          have i1 : (j : Int) < (len : Int) := by omega
          have HJ := Lib.hid h14
          clear hlt h14 hS1
          go_wp2_with fail
          refine (few_any k S1 U1 N _).mono ?_
          rintro e w4 ⟨rfl, ht⟩
          have HP4 := Lib.hid (HP.out.nope ht)
          have HSS := Lib.hid (And.intro (cutP_size S1 14) (cutP_size U1 14))
          clear ht c0 c1 c2 c3
          go_wp2_with fail
          refine (do_any HP4.out.x (by have := HJ.out; omega) k N (cutP S1 14) (cutP U1 14) (by have := HSS.out; unfold maxLen; omega) (by have := HSS.out; unfold maxLen; omega)).mono ?_
          rintro e w5 ⟨rfl, hs, ht⟩
          have HP5 := Lib.hid (HP4.out.did ht hs)
          clear hs ht
          obtain ⟨E, hE⟩ : ∃ E, doE C KL ⟨k, nmOf (cutP S1 14), nmOf (cutP U1 14), N⟩ = E := ⟨_, rfl⟩
          rw [hE]
          clear hE
          go_wp2_with fail
          have hw := HWR.out
          go_wp2_with fail
          go_roundg (20 - (j + 1))
          case measure => have := hj.out; have := HJ.out; omega
          case rel => exact ⟨j + 1, _, _, by go_num, by have := hj.out; have := HJ.out; show _ = _; omega, HP5.out⟩
        · have b2 : decide ((j : Int) < 20) = false := by simp; omega
          have b2n : decide (j < 20) = false := by simp; omega
          have hj14 : 1 + 2 * j ≤ 41 := by have := hj.out; omega
          clear hlt h14
          go_wp2_with fail
          go_meet
          exact ⟨_, C, KL, hj14, HP.out⟩
      · have b1 : decide ((j : Int) < (len : Int)) = false := by simp; omega
        have b1n : decide (j < len) = false := by simp; omega
        have hj14 : 1 + 2 * j ≤ 41 := by have := hj.out; omega
        clear hlt
        go_wp2_with fail
        go_meet
        exact ⟨_, C, KL, hj14, HP.out⟩
  case rest =>
    obtain ⟨n, C, KL, hn⟩ := hcut
    clear HP0
    go_wp2_with fail
    refine (names_any hn.out.2.x).mono ?_
    rintro e w4 ⟨v, rfl, hv, ht⟩
    obtain ⟨A9, c9, g9, cap9, rfl, hcc, hA9, hrow⟩ := hv
    have HP4 := Lib.hid (hn.out.2.nope ht)
    obtain ⟨L, hL⟩ : ∃ L, accs KL = L := ⟨_, rfl⟩
    have HL := Lib.hid hL
    have HN41 := Lib.hid hn.out.1
    rw [hL] at hrow hA9 hcc ⊢
    have HROW := Lib.hid (And.intro hrow (And.intro hA9 hcc))
    clear ht hL hrow hA9 hcc hn
    cases L with
    | nil =>
      go_wp2_with fail
      refine (sum_any HP4.out.x (by have := HN41.out; omega)).mono ?_
      rintro e w5 ⟨rfl, ht⟩
      have HP5 := Lib.hid (HP4.out.nope ht)
      rw [HP5.out.sm]
      clear ht
      go_wp2_with fail
      go_ret
      exact ⟨rfl, HP5.out.tn.nopeBelow⟩
    | cons nm LR =>
      have HNM : Hid (nm ≠ [] ∧ nm.length ≤ 12 ∧ nm ∈ KL ∧ [] ∈ KL) := by
        have hg := HP4.out.x.good
        have h1 : nm ∈ accs KL := by rw [HL.out]; exact List.mem_cons_self
        have h2 := (accs_mem hg.nd hg.house nm).1 h1
        exact ⟨h2.2, hg.nm nm h2.1, h2.1, hg.house⟩
      obtain ⟨nmB, hnmB⟩ : ∃ nmB : ByteArray, (⟨nm.toArray⟩ : ByteArray) = nmB := ⟨_, rfl⟩
      have HNO : Hid (nmOf nmB = nm) := by rw [← hnmB]; exact nm_arr nm
      have HNS : Hid (nmB.size ≤ maxLen) := by show _ ≤ _; rw [← nm_len, HNO.out]; have := HNM.out.2.1; unfold maxLen; omega
      obtain rfl := HROW.out.2.1 (by simp)
      have hcc := HROW.out.2.2
      have c0' : (w4.cell? ⟨g9, 1, none⟩) = some (.string nmB) := by rw [← hnmB]; exact own_elem HROW.out.1 1 (u := encStr nm) (by simp [encs])
      have hlen : ((nm :: LR).length == 0) = false := by simp
      have hlenI : (((nm :: LR).length : Int) == 0) = false := by rw [beq_eq_false_iff_ne]; simp only [List.length_cons]; omega
      have i1 : (0 : Int) < ((nm :: LR).length : Int) := by rw [List.length_cons]; omega
      have i2 : (0 : Int) < (c9 : Int) := by simp at hcc; omega
      obtain ⟨q, hq⟩ : ∃ q, (nm :: LR).length = q := ⟨_, rfl⟩
      rw [hq] at hlen hlenI i1 ⊢
      clear hcc hq hnmB HROW
      go_upto_region 13 with fail
      clear c0' hlen hlenI i1 i2
      have HB4 := Lib.hid (blk_new w4 (.cells #[.string nmB] 9))
      have HP4' := Lib.hid (HP4.out.nope ((Turn.refl _ _).alloc (.cells #[.string nmB] 9)))
      have HBNE : Hid (w4.heap.size ≠ mb ∧ w4.heap.size ≠ s) := by obtain ⟨es, clock, hb⟩ := HP4.out.x.mblk; have h1 := blk_lt hb; have h2 := blk_lt HP4.out.x.hs; exact ⟨by omega, by omega⟩
      obtain ⟨bn, hbn⟩ : ∃ bn, w4.heap.size = bn := ⟨_, rfl⟩
      rw [hbn] at HB4 HBNE ⊢
      generalize w4.alloc (.cells #[.string nmB] 9) = w4' at HB4 HP4' ⊢
      clear HP4 hbn
      have c0 := blk_cell HB4.out 0
      simp only [List.getElem?_toArray, List.getElem?_cons_zero] at c0
      go_wp2_with fail
      refine (has_any HP4'.out.x HNS.out).mono ?_
      rintro e w5 ⟨rfl, ht⟩
      have HP5 := Lib.hid (HP4'.out.nope ht)
      have HB5 : Hid (w5.heap[bn]? = some (.cells #[.string nmB] 9 (0, 0))) := ht.blk HB4.out fun h => h
      obtain ⟨v0, hv0⟩ : ∃ v0, C nm = v0 := ⟨_, rfl⟩
      have HV : Hid (0 ≤ v0 ∧ v0 ≤ 1099511627776 ∧ C nm = v0) := by rw [← hv0]; exact ⟨HP5.out.x.good.lo _ HNM.out.1, HP5.out.x.good.hi _ HNM.out.1, rfl⟩
      rw [HNO.out, hv0]
      clear ht hv0 c0 HB4 HP4'
      have s1 : wrap64 (v0 + A) = v0 + A := IntWalk.wrap64_in _ ⟨by have := HV.out; have := HAB.out; omega, by have := HV.out; have := HAB.out; omega⟩
      have s2 : wrap64 (v0 + A + B) = v0 + A + B := IntWalk.wrap64_in _ ⟨by have := HV.out; have := HAB.out; omega, by have := HV.out; have := HAB.out; omega⟩
      by_cases hover : 1099511627776 < v0 + A + B
      · have d1 : decide (1099511627776 < v0 + A + B) = true := by simpa using hover
        clear hover
        go_wp2_with fail
        go_ret
        exact ⟨rfl, HP5.out.tn.nopeBelow⟩
      · have d1 : decide (1099511627776 < v0 + A + B) = false := by simpa using hover
        have HOV : Hid (v0 + A + B ≤ 1099511627776) := by exact (by omega : v0 + A + B ≤ 1099511627776)
        clear hover
        go_wp2_with fail
        clear s1 s2 d1
        refine (save_any HP5.out.x).mono ?_
        rintro e w6 ⟨rfl, ht⟩
        have HP6 := Lib.hid (HP5.out.nope ht)
        have HB6 : Hid (w6.heap[bn]? = some (.cells #[.string nmB] 9 (0, 0))) := ht.blk HB5.out fun h => h
        clear ht HP5 HB5
        go_wp2_with fail
        refine (load_any w6 HP6.out.x.good HP6.out.sm).mono ?_
        rintro e w7 ⟨s', mb', n', K', rfl, hs, hpm, hn', hls, hlm, ht⟩
        obtain ⟨was, hwas⟩ : ∃ was, savedS C KL = was := ⟨_, rfl⟩
        rw [hwas]
        have HPW : Hid (PW w w7 bn nmB s mb n s' mb' n' (mv C nm 0) KL (mv C nm 0) K') := by
          have hx := HP6.out.x
          obtain ⟨es, clock, hb⟩ := hx.mblk
          have h1 := blk_lt hx.hs
          have h2 := blk_lt hb
          rw [mv_zero]
          exact ⟨ht.blk HB6.out fun h => h, hx.nope ht, ⟨hs.hs, Nat.le_trans HP6.out.tn.size hls, Nat.le_trans HP6.out.tn.size hlm, hs.map, hs.good, hs.house⟩, ⟨by omega, by omega, by omega⟩, HP6.out.tn.trans ht⟩
        have HK : Hid (nm ∈ K' ∧ [] ∈ K' ∧ K'.Perm KL) := ⟨hpm.mem_iff.2 HNM.out.2.2.1, hpm.mem_iff.2 HNM.out.2.2.2, hpm⟩
        have HSW : Hid (savedS (mv C nm 0) KL = was) := by show _ = _; rw [mv_zero, hwas]
        have HNN : Hid (n' ≤ 40) := hn'
        have HSM0 := Lib.hid HP6.out.sm
        clear hs hpm hn' hls hlm ht hwas HP6 HB6
        have hmf : ∀ (fn : Fn) (first cap : Array Value) (w : World), (Instr.makeFunc fn first cap).run Try.prog w = .ok (.func fn first cap) w := fun _ _ _ _ => rfl
        go_upto_region 19 with fail
        clear hmf
        have s3 : wrap64 (A + B) = A + B := IntWalk.wrap64_in _ ⟨by have := HAB.out; omega, by have := HAB.out; omega⟩
        go_wp2_with fail
        refine (op_any (A + B) HPW.out.box).mono ?_
        rintro e w8 ⟨rfl, ht⟩
        have HP8 := Lib.hid (HPW.out.nope ht)
        clear ht
        go_wp2_with fail
        refine (do_any HP8.out.x (by have := HN41.out; have := HNN.out; omega) 3 (A + B) ⟨#[]⟩ nmB (by decide) HNS.out).mono ?_
        rintro e w9 ⟨rfl, hs, ht⟩
        rw [HNO.out, show nmOf ⟨#[]⟩ = [] from rfl] at hs ⊢
        have hok : doE (mv C nm (0)) KL ⟨3, [], nm, A + B⟩ = 0 := to_ok HNM.out.1 HNM.out.2.1 HNM.out.2.2.1 HNM.out.2.2.2 (by have := HAB.out; omega) (by have := HAB.out; omega) (by have := HOV.out; have := HAB.out; have := HV.out; omega)
        rw [(mv_to HNM.out.1 hok).1, (mv_to HNM.out.1 hok).2] at hs
        rw [hok]
        have HQ9 := Lib.hid (HP8.out.onX ht hs)
        clear hs ht hok HP8
        clear s3
        go_wp2_with fail
        refine (op_any (A) HQ9.out.box).mono ?_
        rintro e w10 ⟨rfl, ht⟩
        have HP10 := Lib.hid (HQ9.out.nope ht)
        clear ht
        go_wp2_with fail
        refine (do_any HP10.out.y (by have := HN41.out; have := HNN.out; omega) 3 (A) ⟨#[]⟩ nmB (by decide) HNS.out).mono ?_
        rintro e w11 ⟨rfl, hs, ht⟩
        rw [HNO.out, show nmOf ⟨#[]⟩ = [] from rfl] at hs ⊢
        have hok : doE (mv C nm (0)) K' ⟨3, [], nm, A⟩ = 0 := to_ok HNM.out.1 HNM.out.2.1 HK.out.1 HK.out.2.1 (by have := HAB.out; omega) (by have := HAB.out; omega) (by have := HOV.out; have := HAB.out; have := HV.out; omega)
        rw [(mv_to HNM.out.1 hok).1, (mv_to HNM.out.1 hok).2] at hs
        rw [hok]
        have HQ11 := Lib.hid (HP10.out.onY ht hs)
        clear hs ht hok HP10
        go_wp2_with fail
        refine (op_any (B) HQ11.out.box).mono ?_
        rintro e w12 ⟨rfl, ht⟩
        have HP12 := Lib.hid (HQ11.out.nope ht)
        clear ht
        go_wp2_with fail
        refine (do_any HP12.out.y (by have := HN41.out; have := HNN.out; omega) 3 (B) ⟨#[]⟩ nmB (by decide) HNS.out).mono ?_
        rintro e w13 ⟨rfl, hs, ht⟩
        rw [HNO.out, show nmOf ⟨#[]⟩ = [] from rfl] at hs ⊢
        have hok : doE (mv C nm (0 + (A))) K' ⟨3, [], nm, B⟩ = 0 := to_ok HNM.out.1 HNM.out.2.1 HK.out.1 HK.out.2.1 (by have := HAB.out; omega) (by have := HAB.out; omega) (by have := HOV.out; have := HAB.out; have := HV.out; omega)
        rw [(mv_to HNM.out.1 hok).1, (mv_to HNM.out.1 hok).2] at hs
        rw [hok]
        have HQ13 := Lib.hid (HP12.out.onY ht hs)
        clear hs ht hok HP12
        go_wp2_with fail
        refine (save_any HQ13.out.x).mono ?_
        rintro e w14 ⟨rfl, ht⟩
        have HQ14 := Lib.hid (HQ13.out.nope ht)
        clear ht
        obtain ⟨t1, ht1⟩ : ∃ t1, savedS (mv C nm (0 + (A + B))) KL = t1 := ⟨_, rfl⟩
        have HTT : Hid (savedS (mv C nm (0 + (A) + (B))) K' = t1) := by
          rw [← ht1, show 0 + (A) + (B) = 0 + (A + B) by omega]
          exact saved_same HK.out.2.2
        rw [ht1]
        clear ht1
        go_wp2_with fail
        refine (save_any HQ14.out.y).mono ?_
        rintro e w15 ⟨rfl, ht⟩
        have HQ15 := Lib.hid (HQ14.out.nope ht)
        clear ht
        rw [HTT.out]
        have s4 : (t1.toList != t1.toList) = false := by simp
        have s3 : wrap64 (A + B) = A + B := IntWalk.wrap64_in _ ⟨by have := HAB.out; omega, by have := HAB.out; omega⟩
        go_wp2_with fail
        refine (op_any (A + B) HQ15.out.box).mono ?_
        rintro e w16 ⟨rfl, ht⟩
        have HP16 := Lib.hid (HQ15.out.nope ht)
        clear ht
        clear s3
        go_wp2_with fail
        refine (inv_any 3 (.inr (.inr rfl)) ⟨#[]⟩ nmB (A + B) _).mono ?_
        rintro e w16i ⟨rfl, ht⟩
        have HP16i := Lib.hid (HP16.out.nope ht)
        rw [show aB (inv ⟨3, nmOf ⟨#[]⟩, nmOf nmB, A + B⟩) = .agg #[.int .i64 3, .string nmB, .string ⟨#[]⟩, .int .i64 (A + B)] by show Value.agg #[.int .i64 3, .string ⟨(nmOf nmB).toArray⟩, .string ⟨[].toArray⟩, .int .i64 (A + B)] = _; rw [arr_nm]]
        clear ht HP16
        go_wp2_with fail
        refine (do_any HP16i.out.x (by have := HN41.out; have := HNN.out; omega) 3 (A + B) nmB ⟨#[]⟩ HNS.out (by decide)).mono ?_
        rintro e w17 ⟨rfl, hs, ht⟩
        rw [HNO.out, show nmOf ⟨#[]⟩ = [] from rfl] at hs ⊢
        have hok : doE (mv C nm (0 + (A + B))) KL ⟨3, nm, [], A + B⟩ = 0 := from_ok HNM.out.1 HNM.out.2.1 HNM.out.2.2.1 HNM.out.2.2.2 (by have := HAB.out; omega) (by have := HAB.out; omega) (by have := HOV.out; have := HAB.out; have := HV.out; omega)
        rw [(mv_from HNM.out.1 hok).1, (mv_from HNM.out.1 hok).2] at hs
        rw [hok]
        have HQ17 := Lib.hid (HP16i.out.onX ht hs)
        clear hs ht hok HP16i
        go_wp2_with fail
        refine (save_any HQ17.out.x).mono ?_
        rintro e w18 ⟨rfl, ht⟩
        have HQ18 := Lib.hid (HQ17.out.nope ht)
        clear ht
        rw [show savedS (mv C nm (0 + (A + B) - (A + B))) KL = was by rw [show 0 + (A + B) - (A + B) = 0 by omega]; exact HSW.out]
        have s5 : (was.toList == was.toList) = true := by simp
        go_wp2_with fail
        refine (sum_any HQ18.out.x (by have := HN41.out; omega)).mono ?_
        rintro e wz ⟨rfl, ht⟩
        have HQz := Lib.hid (HQ18.out.nope ht)
        have HSM : Hid (sumK (mv C nm (0 + (A + B) - (A + B))) KL = 0) := by show _ = _; rw [show 0 + (A + B) - (A + B) = 0 by omega, mv_zero]; exact HSM0.out
        rw [HSM.out]
        clear ht
        go_wp2_with fail
        go_ret
        exact ⟨rfl, HQz.out.tn.nopeBelow⟩
end Go.Proofs.Ytlalbmgopbcplaa
