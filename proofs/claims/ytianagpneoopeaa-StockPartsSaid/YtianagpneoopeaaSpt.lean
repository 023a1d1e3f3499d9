/- What comes in two parts: the walk of StockParts. -/
import Derived.Test.YtianagpneoopeaaSpp
set_option maxRecDepth 16000
set_option linter.unusedVariables false
set_option linter.unusedSimpArgs false
namespace Go.Proofs.Ytianagpneoopeaa
open Go.RowKit Go.Maps
theorem and65535 (a : Int) : 0 ≤ bits .and .i64 a 65535 ∧ bits .and .i64 a 65535 ≤ 65535 := by
  have h : (BitVec.ofInt 64 a &&& BitVec.ofInt 64 65535).toNat ≤ 65535 := by
    rw [BitVec.toNat_and]
    exact Nat.le_trans Nat.and_le_right (by decide)
  show 0 ≤ IntKind.i64.wrap ((BitVec.ofInt 64 a &&& BitVec.ofInt 64 65535).toNat : Int) ∧ IntKind.i64.wrap ((BitVec.ofInt 64 a &&& BitVec.ofInt 64 65535).toNat : Int) ≤ 65535
  rw [IntKind.wrap_i64]
  omega
set_option maxHeartbeats 32000000 in
theorem parts_walk (p : Option Addr) (len cap : Nat) (S : ByteArray) (a b : Int) (w : World) (hin : OpsIn w p len) (hS : S.size ≤ 140737488351232) :
    Calls Try.prog 5 #[.slice p len cap, .string S, .int .i64 a, .int .i64 b] w fun e w' => e = .returned (.bool true) ∧ Below w.heap.size w w' := by
  have HIN := Lib.hid hin
  clear hin hS
  obtain ⟨A0, hA0⟩ : ∃ A0, bits .and .i64 a 65535 = A0 := ⟨_, rfl⟩
  obtain ⟨B0, hB0⟩ : ∃ B0, bits .and .i64 b 65535 = B0 := ⟨_, rfl⟩
  have hAr := and65535 a
  have hBr := and65535 b
  rw [hA0] at hAr
  rw [hB0] at hBr
  obtain ⟨A, hA⟩ : ∃ A, 1 + A0 = A := ⟨_, rfl⟩
  obtain ⟨B, hB⟩ : ∃ B, 1 + B0 = B := ⟨_, rfl⟩
  have HAB : Hid (1 ≤ A ∧ A ≤ 65536 ∧ 1 ≤ B ∧ B ≤ 65536) := ⟨by omega, by omega, by omega, by omega⟩
  have hwa : wrap64 (1 + A0) = A := by rw [hA]; exact IntWalk.wrap64_in _ ⟨by omega, by omega⟩
  have hwb : wrap64 (1 + B0) = B := by rw [hB]; exact IntWalk.wrap64_in _ ⟨by omega, by omega⟩
  have hwa' : IntKind.i64.wrap (1 + A0) = A := by rw [hA]; exact IntWalk.i64_in _ ⟨by omega, by omega⟩
  have hwb' : IntKind.i64.wrap (1 + B0) = B := by rw [hB]; exact IntWalk.i64_in _ ⟨by omega, by omega⟩
  have HWA := Lib.hid (And.intro hA0 (And.intro hB0 (And.intro hwa (And.intro hwb (And.intro hwa' hwb')))))
  clear hA0 hB0 hAr hBr hA hB hwa hwb hwa' hwb'
  go_enter Try.func5, Try.ntmps5
  go_wp2_with fail
  have HB0 := Lib.hid (blk_new w (.cells #[.string S] 9))
  obtain ⟨bn, hbn⟩ : ∃ bn, w.heap.size = bn := ⟨_, rfl⟩
  refine (awake_any _).mono ?_
  rintro e w1 ⟨rfl, ht⟩
  have HB1 : Hid (w1.heap[bn]? = some (.cells #[.string S] 9 (0, 0))) := by rw [← hbn]; exact ht.blk HB0.out fun h => h
  have HT1 : Hid (Turn Nope w w1) := ((Turn.refl _ _).alloc _).trans ht
  have HBN : Hid (w.heap.size ≤ bn) := Nat.le_of_eq hbn
  rw [hbn]
  clear hbn ht HB0
  have c0 := blk_cell HB1.out 0
  simp only [List.getElem?_toArray, List.getElem?_cons_zero] at c0
  have hf := blk_frozen HB1.out 0
  have hA0 := HWA.out.1
  have hB0 := HWA.out.2.1
  have hwa := HWA.out.2.2.1
  have hwb := HWA.out.2.2.2.1
  have hwa' := HWA.out.2.2.2.2.1
  have hwb' := HWA.out.2.2.2.2.2
  go_wp2_with fail
  clear hA0 hB0 hwa hwb hwa' hwb'
  refine (cut_any S 10 (by omega) _).mono ?_
  rintro e w2 ⟨rfl, h2⟩
  obtain rfl : w1 = w2 := h2.symm
  clear h2
  obtain ⟨nmB, hnm⟩ : ∃ nmB, (⟨#[110]⟩ : ByteArray) ++ cutP S 10 = nmB := ⟨_, rfl⟩
  have HNM : Hid (nmOf nmB ≠ [] ∧ (nmOf nmB).length ≤ 12 ∧ nmB.size ≤ maxLen) := by
    have h1 : nmB.size = 1 + (cutP S 10).size := by rw [← hnm, ByteArray.size_append]; rfl
    have h2 := cutP_size S 10
    refine ⟨fun e => ?_, by rw [nm_len]; omega, by unfold maxLen; omega⟩
    have := congrArg List.length e
    rw [nm_len, h1, List.length_nil] at this
    omega
  have hcat : ¬ 9223372036854775807 < 1 + (cutP S 10).size := by have := cutP_size S 10; omega
  go_wp2_with fail
  clear hcat
  have HBX : Hid ((w1.setCell ⟨bn, 0, none⟩ (.string nmB)).heap[bn]? = some (.cells #[.string nmB] 9 (0, 0))) := by
    have := blk_set HB1.out 0 (.string nmB)
    show _ = _
    simpa using this
  have HTX : Hid (Turn Nope w (w1.setCell ⟨bn, 0, none⟩ (.string nmB))) := HT1.out.setCell (.inr HBN.out) _
  clear c0 hf hnm HB1 HT1
  generalize w1.setCell ⟨bn, 0, none⟩ (.string nmB) = w2 at HBX HTX ⊢
  refine (new_any w w2 HTX.out).mono ?_
  rintro e w3 ⟨s, mb, rfl, hs, h1, h2, ht⟩
  have HP0 : Hid (PX w w3 bn nmB s mb 0 (fun _ => 0) []) := ⟨ht.blk HBX.out fun h => h, hs, HTX.out.trans ht, Nat.le_refl _⟩
  clear hs h1 h2 ht HBX HTX
  go_upto_region 6 with fail
  go_upto_block 0 with fail
  go_cut [10] from 27 to 43 (fun v10 wr => ∃ (i : Nat) (C : Nm → Int) (KL : List Nm), Hid (i ≤ 14 ∧ PX w wr bn nmB s mb i C KL))
  case first =>
    go_wp2_with fail
    go_loopg [10] 14 (fun k v10 wr => ∃ (i : Nat) (C : Nm → Int) (KL : List Nm), v10 = .int .i64 (i : Int) ∧ Hid (k + i = 14) ∧ Hid (PX w wr bn nmB s mb i C KL))
    case atStart => exact ⟨0, _, _, rfl, rfl, HP0.out⟩
    case round =>
      obtain ⟨j, C, KL, rfl, hj, HP⟩ := hrel
      clear HP0
      have hw : wrap64 ((j : Int) + 1) = (j : Int) + 1 := IntWalk.wrap64_in _ ⟨by have := hj.out; omega, by have := hj.out; omega⟩
      have HWR := Lib.hid hw
      clear hw
      by_cases hlt : j < len
      · have b1 : decide ((j : Int) < (len : Int)) = true := by simp; omega
        have b1n : decide (j < len) = true := by simp; omega
        by_cases h14 : j < 14
        · have b2 : decide ((j : Int) < 14) = true := by simp; omega
          have b2n : decide (j < 14) = true := by simp; omega
          obtain ⟨ad, k, S1, N, rfl, hS1, c0, c1, c2⟩ := (HIN.out.later HP.out.tn.nopeBelow).2 j hlt
          have i0 : (0 : Int) ≤ (j : Int) := by omega
          have i1 : (j : Int) < (len : Int) := by omega
          have HJ := Lib.hid h14
          clear hlt h14 hS1
          go_wp2_with fail
          refine (few_any k S1 N _).mono ?_
          rintro e w4 ⟨rfl, ht⟩
          have HP4 := Lib.hid (HP.out.nope ht)
          have HSS := Lib.hid (cutP_size S1 14)
          clear ht c0 c1 c2
          go_wp2_with fail
          refine (do_any HP4.out.x (by have := HJ.out; omega) k N (cutP S1 14) (by have := HSS.out; unfold maxLen; omega)).mono ?_
          rintro e w5 ⟨rfl, hs, ht⟩
          have HP5 := Lib.hid (HP4.out.did ht hs)
          clear hs ht
          obtain ⟨E, hE⟩ : ∃ E, doE C KL ⟨k, nmOf (cutP S1 14), N⟩ = E := ⟨_, rfl⟩
          rw [hE]
          clear hE
          go_wp2_with fail
          have hw := HWR.out
          go_wp2_with fail
          go_roundg (14 - (j + 1))
          case measure => have := hj.out; have := HJ.out; omega
          case rel => exact ⟨j + 1, _, _, by go_num, by have := hj.out; have := HJ.out; show _ = _; omega, HP5.out⟩
        · have b2 : decide ((j : Int) < 14) = false := by simp; omega
          have b2n : decide (j < 14) = false := by simp; omega
          have hj14 : j ≤ 14 := by have := hj.out; omega
          clear hlt h14
          go_wp2_with fail
          go_meet
          exact ⟨j, C, KL, hj14, HP.out⟩
      · have b1 : decide ((j : Int) < (len : Int)) = false := by simp; omega
        have b1n : decide (j < len) = false := by simp; omega
        have hj14 : j ≤ 14 := by have := hj.out; omega
        clear hlt
        go_wp2_with fail
        go_meet
        exact ⟨j, C, KL, hj14, HP.out⟩
  case rest =>
    obtain ⟨n, C, KL, hn⟩ := hcut
    clear HP0
    have c0 := blk_cell hn.out.2.box 0
    simp only [List.getElem?_toArray, List.getElem?_cons_zero] at c0
    go_wp2_with fail
    refine (count_any hn.out.2.x HNM.out.2.2).mono ?_
    rintro e w4 ⟨rfl, ht⟩
    have HP4 := Lib.hid (hn.out.2.nope ht)
    obtain ⟨nm, hnm⟩ : ∃ nm, nmOf nmB = nm := ⟨_, rfl⟩
    have HNO := Lib.hid hnm
    obtain ⟨v0, hv0⟩ : ∃ v0, C nm = v0 := ⟨_, rfl⟩
    have HV : Hid (0 ≤ v0 ∧ v0 ≤ 1099511627776 ∧ C nm = v0) := by rw [← hv0]; exact ⟨hn.out.2.x.good.lo _, hn.out.2.x.good.hi _, rfl⟩
    rw [hnm] at HNM ⊢
    rw [hv0]
    have HN14 := Lib.hid hn.out.1
    clear ht hnm hv0 c0 hn
    have s1 : wrap64 (v0 + A) = v0 + A := IntWalk.wrap64_in _ ⟨by have := HV.out; have := HAB.out; omega, by have := HV.out; have := HAB.out; omega⟩
    have s2 : wrap64 (v0 + A + B) = v0 + A + B := IntWalk.wrap64_in _ ⟨by have := HV.out; have := HAB.out; omega, by have := HV.out; have := HAB.out; omega⟩
    by_cases hover : 1099511627776 < v0 + A + B
    · have d1 : decide (1099511627776 < v0 + A + B) = true := by simpa using hover
      clear hover
      go_wp2_with fail
      go_ret
      exact ⟨rfl, HP4.out.tn.nopeBelow⟩
    · have d1 : decide (1099511627776 < v0 + A + B) = false := by simpa using hover
      have HOV : Hid (v0 + A + B ≤ 1099511627776) := by exact (by omega : v0 + A + B ≤ 1099511627776)
      clear hover
      go_wp2_with fail
      clear s1 s2 d1
      refine (save_any HP4.out.x).mono ?_
      rintro e w5 ⟨rfl, ht⟩
      have HP5 := Lib.hid (HP4.out.nope ht)
      clear ht HP4
      go_wp2_with fail
      refine (load_any w5 HP5.out.x.good).mono ?_
      rintro e w6 ⟨s', mb', n', K', rfl, hs, hn', hls, hlm, ht⟩
      obtain ⟨was, hwas⟩ : ∃ was, savedS C KL = was := ⟨_, rfl⟩
      have HWAS := Lib.hid hwas
      rw [hwas]
      have HPW : Hid (PW w w6 bn nmB s mb n s' mb' n' (pt C nm v0) KL (pt C nm v0) K') := by
        have e1 : pt C nm v0 = C := by rw [← HV.out.2.2]; exact pt_self C nm
        have hx := HP5.out.x
        obtain ⟨es, clock, hb⟩ := hx.mblk
        have h1 := blk_lt hx.hs
        have h2 := blk_lt hb
        rw [e1]
        exact ⟨ht.blk HP5.out.box fun h => h, hx.nope ht, ⟨hs.hs, Nat.le_trans HP5.out.tn.size hls, Nat.le_trans HP5.out.tn.size hlm, hs.map, hs.good⟩, ⟨by omega, by omega, by omega⟩, HP5.out.tn.trans ht, ⟨by have := HN14.out; omega, by omega⟩⟩
      have HK : Hid (KL.length < 16 ∧ K'.length < 16) := by
        have h1 := HP5.out.len
        have h2 := (HP5.out.x.good.perm hs.good).length_eq
        have h3 := HN14.out
        exact ⟨by omega, by omega⟩
      have HNN : Hid (n ≤ 14 ∧ n' ≤ 16) := ⟨HN14.out, hn'⟩
      have HSW : Hid (∀ K2, Good (pt C nm v0) K2 → savedS (pt C nm v0) K2 = was) := fun K2 hK2 => by
        have e1 : pt C nm v0 = C := by rw [← HV.out.2.2]; exact pt_self C nm
        rw [e1] at hK2 ⊢
        rw [saved_same hK2 HP5.out.x.good, HWAS.out]
      clear hs hn' hls hlm ht hwas HP5
      have hmf : ∀ (fn : Fn) (first cap : Array Value) (w : World), (Instr.makeFunc fn first cap).run Try.prog w = .ok (.func fn first cap) w := fun _ _ _ _ => rfl
      go_upto_region 15 with fail
      clear hmf
      have s3 : wrap64 (A + B) = A + B := IntWalk.wrap64_in _ ⟨by have := HAB.out; omega, by have := HAB.out; omega⟩
      have HNS := Lib.hid HNM.out.2.2
      go_wp2_with fail
      refine (op_any 1 (A + B) HPW.out.box).mono ?_
      rintro e w7 ⟨rfl, ht⟩
      have HP7 := Lib.hid (HPW.out.nope ht)
      clear ht
      go_wp2_with fail
      refine (do_any HP7.out.x (by have := HP7.out.cn; omega) 1 (A + B) nmB HNS.out).mono ?_
      rintro e w8 ⟨rfl, hs, ht⟩
      rw [HNO.out] at hs ⊢
      have hok : doE (pt C nm (v0)) KL ⟨1, nm, A + B⟩ = 0 := add_ok HNM.out.1 HNM.out.2.1 (by have := HAB.out; omega) (by have := HOV.out; omega) HV.out.1 (fun _ => HK.out.1)
      rw [pt_add hok] at hs
      rw [hok]
      have HQ8 := Lib.hid (HP7.out.onX (by have := HNN.out; omega) ht hs)
      obtain ⟨K8, hK8⟩ : ∃ K8, doK (pt C nm (v0)) KL ⟨1, nm, A + B⟩ = K8 := ⟨_, rfl⟩
      rw [hK8] at HQ8
      clear hs ht hok hK8 HP7
      clear s3
      go_wp2_with fail
      refine (op_any 1 (A) HQ8.out.box).mono ?_
      rintro e w9 ⟨rfl, ht⟩
      have HP9 := Lib.hid (HQ8.out.nope ht)
      clear ht
      go_wp2_with fail
      refine (do_any HP9.out.y (by have := HP9.out.cn; omega) 1 (A) nmB HNS.out).mono ?_
      rintro e w10 ⟨rfl, hs, ht⟩
      rw [HNO.out] at hs ⊢
      have hok : doE (pt C nm (v0)) K' ⟨1, nm, A⟩ = 0 := add_ok HNM.out.1 HNM.out.2.1 (by have := HAB.out; omega) (by have := HOV.out; have := HAB.out; omega) HV.out.1 (fun _ => HK.out.2)
      rw [pt_add hok] at hs
      rw [hok]
      have HQ10 := Lib.hid (HP9.out.onY (by have := HNN.out; omega) ht hs)
      obtain ⟨K10, hK10⟩ : ∃ K10, doK (pt C nm (v0)) K' ⟨1, nm, A⟩ = K10 := ⟨_, rfl⟩
      rw [hK10] at HQ10
      clear hs ht hok hK10 HP9
      go_wp2_with fail
      refine (op_any 1 (B) HQ10.out.box).mono ?_
      rintro e w11 ⟨rfl, ht⟩
      have HP11 := Lib.hid (HQ10.out.nope ht)
      clear ht
      go_wp2_with fail
      refine (do_any HP11.out.y (by have := HP11.out.cn; omega) 1 (B) nmB HNS.out).mono ?_
      rintro e w12 ⟨rfl, hs, ht⟩
      rw [HNO.out] at hs ⊢
      have hok : doE (pt C nm (v0 + A)) K10 ⟨1, nm, B⟩ = 0 := add_ok HNM.out.1 HNM.out.2.1 (by have := HAB.out; omega) (by have := HOV.out; omega) (by have := HV.out; have := HAB.out; omega) (fun e => by have := HV.out; have := HAB.out; omega)
      rw [pt_add hok] at hs
      rw [hok]
      have HQ12 := Lib.hid (HP11.out.onY (by have := HNN.out; omega) ht hs)
      obtain ⟨K12, hK12⟩ : ∃ K12, doK (pt C nm (v0 + A)) K10 ⟨1, nm, B⟩ = K12 := ⟨_, rfl⟩
      rw [hK12] at HQ12
      clear hs ht hok hK12 HP11
      go_wp2_with fail
      refine (save_any HQ12.out.x).mono ?_
      rintro e w13 ⟨rfl, ht⟩
      have HQ13 := Lib.hid (HQ12.out.nope ht)
      clear ht
      obtain ⟨t1, ht1⟩ : ∃ t1, savedS (pt C nm (v0 + (A + B))) K8 = t1 := ⟨_, rfl⟩
      have HT1 : Hid (savedS (pt C nm (v0 + A + B)) K12 = t1) := by
        rw [← ht1]
        have h1 := HQ13.out.x.good
        rw [show v0 + (A + B) = v0 + A + B by omega] at h1 ⊢
        exact saved_same HQ13.out.y.good h1
      rw [ht1]
      clear ht1
      go_wp2_with fail
      refine (save_any HQ13.out.y).mono ?_
      rintro e w14 ⟨rfl, ht⟩
      have HQ14 := Lib.hid (HQ13.out.nope ht)
      clear ht
      rw [HT1.out]
      have s4 : (t1.toList != t1.toList) = false := by simp
      go_wp2_with fail
      refine (op_any 2 (A) HQ14.out.box).mono ?_
      rintro e w15 ⟨rfl, ht⟩
      have HP15 := Lib.hid (HQ14.out.nope ht)
      clear ht
      go_wp2_with fail
      refine (do_any HP15.out.x (by have := HP15.out.cn; omega) 2 (A) nmB HNS.out).mono ?_
      rintro e w16 ⟨rfl, hs, ht⟩
      rw [HNO.out] at hs ⊢
      have hok : doE (pt C nm (v0 + (A + B))) K8 ⟨2, nm, A⟩ = 0 := take_ok HNM.out.1 HNM.out.2.1 (by have := HAB.out; omega) (by have := HV.out; have := HAB.out; omega) (by have := HOV.out; omega)
      rw [pt_take hok] at hs
      rw [hok]
      have HQ16 := Lib.hid (HP15.out.onX (by have := HNN.out; omega) ht hs)
      obtain ⟨K16, hK16⟩ : ∃ K16, doK (pt C nm (v0 + (A + B))) K8 ⟨2, nm, A⟩ = K16 := ⟨_, rfl⟩
      rw [hK16] at HQ16
      clear hs ht hok hK16 HP15
      go_wp2_with fail
      refine (op_any 2 (B) HQ16.out.box).mono ?_
      rintro e w17 ⟨rfl, ht⟩
      have HP17 := Lib.hid (HQ16.out.nope ht)
      clear ht
      go_wp2_with fail
      refine (do_any HP17.out.x (by have := HP17.out.cn; omega) 2 (B) nmB HNS.out).mono ?_
      rintro e w18 ⟨rfl, hs, ht⟩
      rw [HNO.out] at hs ⊢
      have hok : doE (pt C nm (v0 + (A + B) - A)) K16 ⟨2, nm, B⟩ = 0 := take_ok HNM.out.1 HNM.out.2.1 (by have := HAB.out; omega) (by have := HV.out; have := HAB.out; omega) (by have := HOV.out; have := HAB.out; omega)
      rw [pt_take hok] at hs
      rw [hok]
      have HQ18 := Lib.hid (HP17.out.onX (by have := HNN.out; omega) ht hs)
      obtain ⟨K18, hK18⟩ : ∃ K18, doK (pt C nm (v0 + (A + B) - A)) K16 ⟨2, nm, B⟩ = K18 := ⟨_, rfl⟩
      rw [hK18] at HQ18
      clear hs ht hok hK18 HP17
      have s3 : wrap64 (A + B) = A + B := IntWalk.wrap64_in _ ⟨by have := HAB.out; omega, by have := HAB.out; omega⟩
      go_wp2_with fail
      refine (op_any 2 (A + B) HQ18.out.box).mono ?_
      rintro e w19 ⟨rfl, ht⟩
      have HP19 := Lib.hid (HQ18.out.nope ht)
      clear ht
      go_wp2_with fail
      refine (do_any HP19.out.y (by have := HP19.out.cn; omega) 2 (A + B) nmB HNS.out).mono ?_
      rintro e w20 ⟨rfl, hs, ht⟩
      rw [HNO.out] at hs ⊢
      have hok : doE (pt C nm (v0 + A + B)) K12 ⟨2, nm, A + B⟩ = 0 := take_ok HNM.out.1 HNM.out.2.1 (by have := HAB.out; omega) (by have := HV.out; have := HAB.out; omega) (by have := HOV.out; omega)
      rw [pt_take hok] at hs
      rw [hok]
      have HQ20 := Lib.hid (HP19.out.onY (by have := HNN.out; omega) ht hs)
      obtain ⟨K20, hK20⟩ : ∃ K20, doK (pt C nm (v0 + A + B)) K12 ⟨2, nm, A + B⟩ = K20 := ⟨_, rfl⟩
      rw [hK20] at HQ20
      clear hs ht hok hK20 HP19
      go_wp2_with fail
      refine (save_any HQ20.out.x).mono ?_
      rintro e w21 ⟨rfl, ht⟩
      have HQ21 := Lib.hid (HQ20.out.nope ht)
      clear ht
      rw [show v0 + (A + B) - A - B = v0 by omega, show v0 + A + B - (A + B) = v0 by omega] at HQ21
      rw [show savedS (pt C nm (v0 + (A + B) - A - B)) K18 = was by rw [show v0 + (A + B) - A - B = v0 by omega]; exact HSW.out _ HQ21.out.x.good]
      have s5 : (was.toList == was.toList) = true := by simp
      go_wp2_with fail
      refine (save_any HQ21.out.y).mono ?_
      rintro e w22 ⟨rfl, ht⟩
      have HQ22 := Lib.hid (HQ21.out.nope ht)
      clear ht
      rw [HSW.out _ HQ21.out.y.good]
      go_wp2_with fail
      go_ret
      exact ⟨rfl, HQ22.out.tn.nopeBelow⟩
end Go.Proofs.Ytianagpneoopeaa
