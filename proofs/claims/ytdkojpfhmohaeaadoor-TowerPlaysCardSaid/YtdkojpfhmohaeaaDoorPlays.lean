/- TowerPlays: the walk. -/
import Derived.Test.YtdkojpfhmohaeaaDoorPB
set_option linter.unusedVariables false
namespace Go.Proofs.YtdkojpfhmohaeaaDoor
open PTowerPlays Go.RowKit Go.Proofs.YtdkojpfhmohaeaaDoorW.PrintWords Go.Proofs.YtdkojpfhmohaeaaDoorW.PrintLast Go.Proofs.YtdkojpfhmohaeaaDoorW.PrintMore
open TS Go.Proofs.TowerPlain
set_option maxRecDepth 8000 in
set_option maxHeartbeats 16000000 in
theorem plays_walk (a : Option Addr) (len cap : Nat) (look : Int) (w : World) (hin : ActsIn w a len) (hT : TabAt w) :
    Calls Tryd.prog 8 #[.slice a len cap, .int .i64 look] w fun e w' => e = .returned (.bool true) ∧ Below w.heap.size w w' := by
  have HIN := Lib.hid hin
  have HT := Lib.hid hT
  clear hin hT
  go_enter Tryd.func8, Tryd.ntmps8
  go_wp2_with fail
  refine (awake_any _ HT.out).mono ?_
  rintro e w1 ⟨rfl, ht⟩
  have HT1 := Lib.hid ht
  clear ht
  go_wp2_with fail
  refine (one_new w _ HT1.out).mono ?_
  rintro e w2 ⟨q, rfl, h, ht⟩
  have HQ2 := Lib.hid (h.nope (w' := w2.alloc (.cells #[] 48)) ((Turn.refl _ _).alloc _))
  have HR2 : Hid (RowV (w2.alloc (.cells #[] 48)) (.slice (some ⟨w2.heap.size, 0, none⟩) 0 0) []) := ⟨_, 0, rfl, Nat.le_refl _, Nat.zero_le _, fun hp => absurd hp (Nat.lt_irrefl 0)⟩
  clear h ht HT1
  go_wp2_with fail
  go_loopg [6, 7] 60 (fun kk v6 v7 wr => ∃ (i : Nat) (l : List Ver), v7 = .int .i64 (i : Int) ∧ Hid (kk + i = 60 ∧ l.length ≤ i ∧ i ≤ len ∧ SortedT l ∧ Small l) ∧ Hid (One w wr q l ∧ RowV wr v6 l))
  case atStart => exact ⟨0, [], rfl, ⟨rfl, Nat.le_refl _, Nat.zero_le _, List.Pairwise.nil, fun y hy => by cases hy⟩, HQ2.out, HR2.out⟩
  case round =>
    obtain ⟨i, l, rfl, hi, hl⟩ := hrel
    clear HQ2 HR2
    have hi0 := hi.out.1
    have hi1 := hi.out.2.1
    by_cases hlt : i < len ∧ i < 60
    · have hw : wrap64 ((i : Int) + 1) = (i : Int) + 1 := IntWalk.wrap64_in _ ⟨by omega, by omega⟩
      have b1 : decide ((i : Int) < (len : Int)) = true := by simp; omega
      have b1n : decide (i < len) = true := by simp; omega
      have b2 : decide ((i : Int) < (60 : Int)) = true := by simp; omega
      have b2n : decide (i < 60) = true := by simp; omega
      obtain ⟨ad, k, av, up, s, rfl, hav, hup, hsz, c0, c1, c2, c3⟩ := HIN.out.2 i hlt.1
      have hb := hl.out.1.turn.nopeBelow
      have c0 := cell_later hb c0
      have c1 := cell_later hb c1
      have c2 := cell_later hb c2
      have c3 := cell_later hb c3
      have i0 : (0 : Int) ≤ (i : Int) := by omega
      have i1 : (i : Int) < (len : Int) := by omega
      obtain ⟨A0, cp0, rfl, _⟩ := hl.out.2
      have HB0 : Hid (PB w q wr.heap.size k av up s l l (.slice A0 l.length cp0) (wr.alloc (.cells #[.int .i64 k, .int .i64 av, .int .i64 up, .string s] 42))) := ⟨hl.out.1.nope ((Turn.refl _ _).alloc _), hl.out.2.kp (Kp.ofNope ((Turn.refl _ _).alloc _)), blk_new _ _⟩
      obtain ⟨r, hr⟩ := cutS_f s
      have HR := Lib.hid hr
      have hlt1 := hlt.1
      have hlt2 := hlt.2
      have HAV := Lib.hid hav
      clear hb hlt hl hr hav hup hsz
      go_wp2_with fail
      generalize wr.alloc (.cells #[.int .i64 k, .int .i64 av, .int .i64 up, .string s] 42) = wa at *
      generalize wr.heap.size = ab at *
      clear c0 c1 c2 c3
      refine (hindsightlaw01_Cut.calls s 10 r wa HR.out).mono ?_
      rintro e w3 ⟨rfl, hd⟩
      have HB3 := Lib.hid (HB0.out.nope (Turn.ofBelow hd.below Nope))
      clear hd HB0
      obtain ⟨a0, a1, a2, a3⟩ := HB3.out.cells
      by_cases hk : k = 1
      · have k1 : (k == 1) = true := by simpa using hk
        clear hk
        go_wp2_with fail
        refine (pb_put HB3.out HT.out av HAV.out.2 (by omega) r).mono ?_
        rintro e w4 ⟨rfl, h4⟩
        have HB4 := Lib.hid h4
        clear h4 a0 a1 a2 a3 HB3
        obtain ⟨a0, a1, a2, a3⟩ := HB4.out.cells
        go_wp2_with fail
        refine (pb_rput HB4.out hi.out.2.2.2.1 (by omega) av r).mono ?_
        rintro e w5 ⟨v', rfl, h5⟩
        have HB := Lib.hid h5
        clear h5 a0 a1 a2 a3 HB4
        obtain ⟨a0, a1, a2, a3⟩ := HB.out.cells
        obtain ⟨A', cp', rfl, _⟩ := HB.out.row
        obtain ⟨hb, hhb⟩ : ∃ b, hasT av l = b := ⟨_, rfl⟩
        rw [hhb]
        have n0 : (hb != hb) = false := by cases hb <;> rfl
        have n0b : (hb ^^ hb) = false := by cases hb <;> rfl
        clear hhb
        go_wp2_with fail
        have HLL : Hid ((insT (av, r) l).length ≤ i + 1) := Nat.le_trans (insT_len _ _) (by omega)
        have HSO := Lib.hid (insT_sorted (av, r) hi.out.2.2.2.1)
        have HSM := Lib.hid (insT_small (x := (av, r)) HAV.out.2 hi.out.2.2.2.1 hi.out.2.2.2.2)
        obtain ⟨l', hl'⟩ : ∃ l', insT (av, r) l = l' := ⟨_, rfl⟩
        rw [hl'] at HB HLL HSO HSM ⊢
        clear hl' n0 n0b
        clear hi0 hi1
        have HL' : Hid (l'.length ≤ 60) := (by have := HLL.out; omega : l'.length ≤ 60)
        obtain ⟨r1, r2, r3, hf1, hf3⟩ := floor_two (floorT av l')
        have HF1 := Lib.hid hf1
        have HF3 := Lib.hid hf3
        clear hf1 hf3
        refine (pb_floor HB.out av).mono ?_
        rw [HF1.out]
        rintro e w8 ⟨rfl, h8⟩
        have HB8 := Lib.hid h8
        clear h8 a0 a1 a2 a3 HB
        obtain ⟨a0, a1, a2, a3⟩ := HB8.out.cells
        go_wp2_with fail
        refine (pb_rfloor HB8.out (by have := HL'.out; omega) av r1 r2 r3 HF3.out).mono ?_
        rintro e w9 ⟨rfl, h9⟩
        have HB9 := Lib.hid (h9.nope ((Turn.refl _ _).alloc (.cells #[.int .i64 r1, .string r2] 48)))
        clear h9 a0 a1 a2 a3 HB8
        have n1 : (r1 != r1) = false := by simp
        have n3 : (r3 != r3) = false := by cases r3 <;> rfl
        have n3b : (r3 ^^ r3) = false := by cases r3 <;> rfl
        have n4 : ((l'.length : Int) != (l'.length : Int)) = false := by simp
        have n5 : (((stepsT look l' : Nat) : Int) != ((stepsT look l' : Nat) : Int)) = false := by simp
        go_wp2_with fail
        generalize w9.alloc (.cells #[.int .i64 r1, .string r2] 48) = wb at *
        refine (one_len HB9.out.one).mono ?_
        rintro e w10 ⟨rfl, rfl⟩
        go_wp2_with fail
        refine (pb_vers HB9.out (by have := HL'.out; omega)).mono ?_
        rintro e w11 ⟨v1, rfl, hn1, h11⟩
        have HB11 := Lib.hid h11
        have HN1 := Lib.hid hn1
        obtain ⟨A1, d1, rfl, _⟩ := hn1
        clear h11 HB9
        go_wp2_with fail
        refine (pb_rvers HB11.out (by have := HL'.out; omega)).mono ?_
        rintro e w12 ⟨v2, rfl, hn2, ht12, h12⟩
        have HB12 := Lib.hid h12
        have HN1' := Lib.hid (HN1.out.nope ht12)
        have HN2 := Lib.hid hn2
        obtain ⟨A2, d2, rfl, _⟩ := hn2
        clear h12 ht12 HN1 HB11
        go_wp2_with fail
        have HN5 := Lib.hid n5
        have HW := Lib.hid hw
        clear n1 n3 n3b n4 n5 b1 b1n b2 b2n i0 i1 k1 hw
        have hh := sameN HN1'.out HN2.out (by rw [List.length_map]; have := HL'.out; omega)
        rw [List.length_map] at hh
        refine hh.mono ?_
        clear hh
        rintro e w13 ⟨rfl, ht13⟩
        have HB13 := Lib.hid (HB12.out.nope ht13)
        clear ht13 HB12 HN1' HN2
        go_wp2_with fail
        refine (one_steps HB13.out.one (by have := HL'.out; omega) look).mono ?_
        rintro e w14 ⟨rfl, rfl⟩
        have n5 := HN5.out
        go_wp2_with fail
        refine (pb_rsteps HB13.out HSO.out HSM.out (by have := HL'.out; omega) look).mono ?_
        rintro e w15 ⟨rfl, h15⟩
        have HB15 := Lib.hid h15
        have hw := HW.out
        have HLT := Lib.hid (And.intro hlt1 hlt2)
        clear hlt1 hlt2 n5
        clear h15 HB13
        go_wp2_with fail
        go_roundg (59 - i)
        case measure => have := hi.out.1; have := HLT.out; omega
        case rel => exact ⟨i + 1, l', by go_num, ⟨by have := HLT.out; omega, HLL.out, by have := HLT.out; omega, HSO.out, HSM.out⟩, HB15.out.one, HB15.out.row⟩
      · by_cases hk3 : k = 3
        · have k1 : (k == 1) = false := by simp; omega
          have k3 : (k == 3) = true := by simpa using hk3
          clear hk hk3
          have hle := cutT_le av up l
          have q1 : ((l.length : Int) - ((cutT av up l).length : Int) != (l.length : Int) - ((cutT av up l).length : Int)) = false := by simp
          have hwq : wrap64 ((l.length : Int) - ((cutT av up l).length : Int)) = (l.length : Int) - ((cutT av up l).length : Int) := IntWalk.wrap64_in _ ⟨by omega, by omega⟩
          go_wp2_with fail
          refine (pb_cut HB3.out (by omega) av up).mono ?_
          rintro e w4 ⟨rfl, h4⟩
          have HB4 := Lib.hid h4
          clear h4 a0 a1 a2 a3 HB3
          obtain ⟨a0, a1, a2, a3⟩ := HB4.out.cells
          go_wp2_with fail
          refine (pb_rcut HB4.out (by omega) av up).mono ?_
          rintro e w5 ⟨v', rfl, hrow, h5⟩
          have HB : Hid (PB w q ab k av up s (cutT av up l) (cutT av up l) v' w5) := ⟨h5.one, hrow, h5.act⟩
          clear h5 hrow a0 a1 a2 a3 HB4
          obtain ⟨a0, a1, a2, a3⟩ := HB.out.cells
          obtain ⟨A', cp', rfl, _⟩ := HB.out.row
          go_wp2_with fail
          have HLL : Hid ((cutT av up l).length ≤ i + 1) := (by omega : (cutT av up l).length ≤ i + 1)
          have HSO := Lib.hid (cutT_sorted (a := av) (b := up) hi.out.2.2.2.1)
          have HSM := Lib.hid (cutT_small (a := av) (b := up) hi.out.2.2.2.2)
          obtain ⟨l', hl'⟩ : ∃ l', cutT av up l = l' := ⟨_, rfl⟩
          rw [hl'] at HB HLL HSO HSM ⊢
          clear q1 hwq hle
          clear hl'
          clear hi0 hi1
          have HL' : Hid (l'.length ≤ 60) := (by have := HLL.out; omega : l'.length ≤ 60)
          obtain ⟨r1, r2, r3, hf1, hf3⟩ := floor_two (floorT av l')
          have HF1 := Lib.hid hf1
          have HF3 := Lib.hid hf3
          clear hf1 hf3
          refine (pb_floor HB.out av).mono ?_
          rw [HF1.out]
          rintro e w8 ⟨rfl, h8⟩
          have HB8 := Lib.hid h8
          clear h8 a0 a1 a2 a3 HB
          obtain ⟨a0, a1, a2, a3⟩ := HB8.out.cells
          go_wp2_with fail
          refine (pb_rfloor HB8.out (by have := HL'.out; omega) av r1 r2 r3 HF3.out).mono ?_
          rintro e w9 ⟨rfl, h9⟩
          have HB9 := Lib.hid (h9.nope ((Turn.refl _ _).alloc (.cells #[.int .i64 r1, .string r2] 48)))
          clear h9 a0 a1 a2 a3 HB8
          have n1 : (r1 != r1) = false := by simp
          have n3 : (r3 != r3) = false := by cases r3 <;> rfl
          have n3b : (r3 ^^ r3) = false := by cases r3 <;> rfl
          have n4 : ((l'.length : Int) != (l'.length : Int)) = false := by simp
          have n5 : (((stepsT look l' : Nat) : Int) != ((stepsT look l' : Nat) : Int)) = false := by simp
          go_wp2_with fail
          generalize w9.alloc (.cells #[.int .i64 r1, .string r2] 48) = wb at *
          refine (one_len HB9.out.one).mono ?_
          rintro e w10 ⟨rfl, rfl⟩
          go_wp2_with fail
          refine (pb_vers HB9.out (by have := HL'.out; omega)).mono ?_
          rintro e w11 ⟨v1, rfl, hn1, h11⟩
          have HB11 := Lib.hid h11
          have HN1 := Lib.hid hn1
          obtain ⟨A1, d1, rfl, _⟩ := hn1
          clear h11 HB9
          go_wp2_with fail
          refine (pb_rvers HB11.out (by have := HL'.out; omega)).mono ?_
          rintro e w12 ⟨v2, rfl, hn2, ht12, h12⟩
          have HB12 := Lib.hid h12
          have HN1' := Lib.hid (HN1.out.nope ht12)
          have HN2 := Lib.hid hn2
          obtain ⟨A2, d2, rfl, _⟩ := hn2
          clear h12 ht12 HN1 HB11
          go_wp2_with fail
          have HN5 := Lib.hid n5
          have HW := Lib.hid hw
          clear n1 n3 n3b n4 n5 b1 b1n b2 b2n i0 i1 k1 k3 hw
          have hh := sameN HN1'.out HN2.out (by rw [List.length_map]; have := HL'.out; omega)
          rw [List.length_map] at hh
          refine hh.mono ?_
          clear hh
          rintro e w13 ⟨rfl, ht13⟩
          have HB13 := Lib.hid (HB12.out.nope ht13)
          clear ht13 HB12 HN1' HN2
          go_wp2_with fail
          refine (one_steps HB13.out.one (by have := HL'.out; omega) look).mono ?_
          rintro e w14 ⟨rfl, rfl⟩
          have n5 := HN5.out
          go_wp2_with fail
          refine (pb_rsteps HB13.out HSO.out HSM.out (by have := HL'.out; omega) look).mono ?_
          rintro e w15 ⟨rfl, h15⟩
          have HB15 := Lib.hid h15
          have hw := HW.out
          have HLT := Lib.hid (And.intro hlt1 hlt2)
          clear hlt1 hlt2 n5
          clear h15 HB13
          go_wp2_with fail
          go_roundg (59 - i)
          case measure => have := hi.out.1; have := HLT.out; omega
          case rel => exact ⟨i + 1, l', by go_num, ⟨by have := HLT.out; omega, HLL.out, by have := HLT.out; omega, HSO.out, HSM.out⟩, HB15.out.one, HB15.out.row⟩
        · have k1 : (k == 1) = false := by simpa using hk
          have k3 : (k == 3) = false := by simpa using hk3
          clear hk hk3
          go_wp2_with fail
          have HB := HB3
          have HLL : Hid (l.length ≤ i + 1) := (by omega : l.length ≤ i + 1)
          have HSO := Lib.hid hi.out.2.2.2.1
          have HSM := Lib.hid hi.out.2.2.2.2
          clear HB3
          obtain ⟨l', hl'⟩ : ∃ l', l = l' := ⟨_, rfl⟩
          subst hl'
          clear hi0 hi1
          have HL' : Hid (l.length ≤ 60) := (by have := HLL.out; omega : l.length ≤ 60)
          obtain ⟨r1, r2, r3, hf1, hf3⟩ := floor_two (floorT av l)
          have HF1 := Lib.hid hf1
          have HF3 := Lib.hid hf3
          clear hf1 hf3
          refine (pb_floor HB.out av).mono ?_
          rw [HF1.out]
          rintro e w8 ⟨rfl, h8⟩
          have HB8 := Lib.hid h8
          clear h8 a0 a1 a2 a3 HB
          obtain ⟨a0, a1, a2, a3⟩ := HB8.out.cells
          go_wp2_with fail
          refine (pb_rfloor HB8.out (by have := HL'.out; omega) av r1 r2 r3 HF3.out).mono ?_
          rintro e w9 ⟨rfl, h9⟩
          have HB9 := Lib.hid (h9.nope ((Turn.refl _ _).alloc (.cells #[.int .i64 r1, .string r2] 48)))
          clear h9 a0 a1 a2 a3 HB8
          have n1 : (r1 != r1) = false := by simp
          have n3 : (r3 != r3) = false := by cases r3 <;> rfl
          have n3b : (r3 ^^ r3) = false := by cases r3 <;> rfl
          have n4 : ((l.length : Int) != (l.length : Int)) = false := by simp
          have n5 : (((stepsT look l : Nat) : Int) != ((stepsT look l : Nat) : Int)) = false := by simp
          go_wp2_with fail
          generalize w9.alloc (.cells #[.int .i64 r1, .string r2] 48) = wb at *
          refine (one_len HB9.out.one).mono ?_
          rintro e w10 ⟨rfl, rfl⟩
          go_wp2_with fail
          refine (pb_vers HB9.out (by have := HL'.out; omega)).mono ?_
          rintro e w11 ⟨v1, rfl, hn1, h11⟩
          have HB11 := Lib.hid h11
          have HN1 := Lib.hid hn1
          obtain ⟨A1, d1, rfl, _⟩ := hn1
          clear h11 HB9
          go_wp2_with fail
          refine (pb_rvers HB11.out (by have := HL'.out; omega)).mono ?_
          rintro e w12 ⟨v2, rfl, hn2, ht12, h12⟩
          have HB12 := Lib.hid h12
          have HN1' := Lib.hid (HN1.out.nope ht12)
          have HN2 := Lib.hid hn2
          obtain ⟨A2, d2, rfl, _⟩ := hn2
          clear h12 ht12 HN1 HB11
          go_wp2_with fail
          have HN5 := Lib.hid n5
          have HW := Lib.hid hw
          clear n1 n3 n3b n4 n5 b1 b1n b2 b2n i0 i1 k1 k3 hw
          have hh := sameN HN1'.out HN2.out (by rw [List.length_map]; have := HL'.out; omega)
          rw [List.length_map] at hh
          refine hh.mono ?_
          clear hh
          rintro e w13 ⟨rfl, ht13⟩
          have HB13 := Lib.hid (HB12.out.nope ht13)
          clear ht13 HB12 HN1' HN2
          go_wp2_with fail
          refine (one_steps HB13.out.one (by have := HL'.out; omega) look).mono ?_
          rintro e w14 ⟨rfl, rfl⟩
          have n5 := HN5.out
          go_wp2_with fail
          refine (pb_rsteps HB13.out HSO.out HSM.out (by have := HL'.out; omega) look).mono ?_
          rintro e w15 ⟨rfl, h15⟩
          have HB15 := Lib.hid h15
          have hw := HW.out
          have HLT := Lib.hid (And.intro hlt1 hlt2)
          clear hlt1 hlt2 n5
          clear h15 HB13
          go_wp2_with fail
          go_roundg (59 - i)
          case measure => have := hi.out.1; have := HLT.out; omega
          case rel => exact ⟨i + 1, l, by go_num, ⟨by have := HLT.out; omega, HLL.out, by have := HLT.out; omega, HSO.out, HSM.out⟩, HB15.out.one, HB15.out.row⟩
    · have HSO := Lib.hid hi.out.2.2.2.1
      have HSM := Lib.hid hi.out.2.2.2.2
      have HL' : Hid (l.length ≤ 60) := (by omega : l.length ≤ 60)
      have hex : (i < len ∧ i = 60) ∨ i = len := by have := hi.out.2.2.1; omega
      obtain ⟨A0, cp0, rfl, _⟩ := hl.out.2
      have HQ := Lib.hid hl.out
      clear hi hl hlt hi0 hi1
      rcases hex with ⟨h1, h2⟩ | h1
      · have b1 : decide ((i : Int) < (len : Int)) = true := by simp; omega
        have b1n : decide (i < len) = true := by simp; omega
        have b2 : decide ((i : Int) < (60 : Int)) = false := by simp; omega
        have b2n : decide (i < 60) = false := by simp; omega
        clear h1 h2
        go_wp2_with fail
        go_loopg [20] 12 (fun kk v20 wr => ∃ (m : Nat), v20 = .int .i64 ((m : Int) - 1) ∧ Hid (kk + m = 12 ∧ One w wr q l ∧ RowV wr (.slice A0 l.length cp0) l))
        case atStart => exact ⟨0, rfl, rfl, HQ.out.1, HQ.out.2⟩
        case round =>
          obtain ⟨m, rfl, hm⟩ := hrel
          clear HQ b1 b1n b2 b2n
          have hm0 := hm.out.1
          by_cases hlt : m < 12
          · obtain ⟨z, hz⟩ : ∃ z : Int, (m : Int) - 1 = z := ⟨_, rfl⟩
            rw [hz]
            have d1 : decide (z ≤ 10) = true := by simp; omega
            have hw : wrap64 (z + 1) = z + 1 := IntWalk.wrap64_in _ ⟨by omega, by omega⟩
            obtain ⟨D, hD⟩ : ∃ D, (if z < 0 ∨ 10 ≤ z then [] else levelZ z l) = D := ⟨_, rfl⟩
            have HD := Lib.hid hD
            have HDL : Hid (D.length ≤ 1000) := by
              have h1 := levelZ_len z l
              have h2 := HL'.out
              show D.length ≤ 1000
              rw [← hD]
              split
              · simp
              · omega
            by_cases h10 : z = 10
            · have d2 : (z == 10) = true := by simpa using h10
              have HDN : Hid (D = []) := by show D = []; rw [← hD, if_pos (by omega)]
              clear hD h10
              go_wp2_with fail
              refine (rlevel_any hm.out.2.2 HSM.out (by have := HL'.out; omega) z).mono ?_
              rintro e w3 ⟨v2, rfl, hn2, ht3⟩
              have H3 : Hid (One w w3 q l ∧ RowV w3 (.slice A0 l.length cp0) l) := ⟨hm.out.2.1.nope ht3, hm.out.2.2.kp (Kp.ofNope ht3)⟩
              clear hn2 ht3
              go_wp2_with fail
              refine (tlevel_any H3.out.1 (by have := HL'.out; omega) z D HD.out.symm).mono ?_
              rintro e w4 ⟨v1, rfl, hn1, ht4⟩
              have H4 : Hid (One w w4 q l ∧ RowV w4 (.slice A0 l.length cp0) l) := ⟨H3.out.1.nope ht4, H3.out.2.kp (Kp.ofNope ht4)⟩
              have HN1 := Lib.hid hn1
              obtain ⟨A1, e1, rfl, _⟩ := hn1
              have HN2 : Hid (NumV w4 (.slice none 0 0) D) := by show NumV _ _ D; rw [HDN.out]; exact NumV.nil _
              clear ht4 H3
              go_wp2_with fail
              refine (sameN HN1.out HN2.out HDL.out).mono ?_
              rintro e w5 ⟨rfl, ht5⟩
              have H5 : Hid (One w w5 q l ∧ RowV w5 (.slice A0 l.length cp0) l) := ⟨H4.out.1.nope ht5, H4.out.2.kp (Kp.ofNope ht5)⟩
              clear ht5 H4 HN1 HN2
              go_wp2_with fail
              go_roundg (11 - m)
              case measure => omega
              case rel => exact ⟨m + 1, by go_num, by omega, H5.out⟩
            · have d2 : (z == 10) = false := by simpa using h10
              have HDE : Hid (levelZ z l = D) := by
                show _ = D
                rw [← hD]
                split
                · exact levelZ_neg (by omega) l
                · rfl
              clear hD h10
              go_wp2_with fail
              refine (rlevel_any hm.out.2.2 HSM.out (by have := HL'.out; omega) z).mono ?_
              rw [HDE.out]
              rintro e w3 ⟨v2, rfl, hn2, ht3⟩
              have H3 : Hid (One w w3 q l ∧ RowV w3 (.slice A0 l.length cp0) l) := ⟨hm.out.2.1.nope ht3, hm.out.2.2.kp (Kp.ofNope ht3)⟩
              have HN2 := Lib.hid hn2
              obtain ⟨A2, e2, rfl, _⟩ := hn2
              clear ht3
              go_wp2_with fail
              refine (tlevel_any H3.out.1 (by have := HL'.out; omega) z D HD.out.symm).mono ?_
              rintro e w4 ⟨v1, rfl, hn1, ht4⟩
              have H4 : Hid (One w w4 q l ∧ RowV w4 (.slice A0 l.length cp0) l) := ⟨H3.out.1.nope ht4, H3.out.2.kp (Kp.ofNope ht4)⟩
              have HN2' := Lib.hid (HN2.out.nope ht4)
              have HN1 := Lib.hid hn1
              obtain ⟨A1, e1, rfl, _⟩ := hn1
              clear ht4 H3 HN2
              go_wp2_with fail
              refine (sameN HN1.out HN2'.out HDL.out).mono ?_
              rintro e w5 ⟨rfl, ht5⟩
              have H5 : Hid (One w w5 q l ∧ RowV w5 (.slice A0 l.length cp0) l) := ⟨H4.out.1.nope ht5, H4.out.2.kp (Kp.ofNope ht5)⟩
              clear ht5 H4 HN1 HN2'
              go_wp2_with fail
              go_roundg (11 - m)
              case measure => omega
              case rel => exact ⟨m + 1, by go_num, by omega, H5.out⟩
          · obtain rfl : m = 12 := by omega
            have d1 : decide ((((12 : Nat) : Int) - 1) ≤ 10) = false := by decide
            have d1' : decide ((11 : Int) ≤ 10) = false := by decide
            have HQ := Lib.hid hm.out.2.1
            clear hm hm0 hlt
            go_wp2_with fail
            go_ret
            exact ⟨rfl, HQ.out.turn.nopeBelow⟩
      · have b1 : decide ((i : Int) < (len : Int)) = false := by simp; omega
        have b1n : decide (i < len) = false := by simp; omega
        clear h1
        go_wp2_with fail
        go_loopg [20] 12 (fun kk v20 wr => ∃ (m : Nat), v20 = .int .i64 ((m : Int) - 1) ∧ Hid (kk + m = 12 ∧ One w wr q l ∧ RowV wr (.slice A0 l.length cp0) l))
        case atStart => exact ⟨0, rfl, rfl, HQ.out.1, HQ.out.2⟩
        case round =>
          obtain ⟨m, rfl, hm⟩ := hrel
          clear HQ b1 b1n
          have hm0 := hm.out.1
          by_cases hlt : m < 12
          · obtain ⟨z, hz⟩ : ∃ z : Int, (m : Int) - 1 = z := ⟨_, rfl⟩
            rw [hz]
            have d1 : decide (z ≤ 10) = true := by simp; omega
            have hw : wrap64 (z + 1) = z + 1 := IntWalk.wrap64_in _ ⟨by omega, by omega⟩
            obtain ⟨D, hD⟩ : ∃ D, (if z < 0 ∨ 10 ≤ z then [] else levelZ z l) = D := ⟨_, rfl⟩
            have HD := Lib.hid hD
            have HDL : Hid (D.length ≤ 1000) := by
              have h1 := levelZ_len z l
              have h2 := HL'.out
              show D.length ≤ 1000
              rw [← hD]
              split
              · simp
              · omega
            by_cases h10 : z = 10
            · have d2 : (z == 10) = true := by simpa using h10
              have HDN : Hid (D = []) := by show D = []; rw [← hD, if_pos (by omega)]
              clear hD h10
              go_wp2_with fail
              refine (rlevel_any hm.out.2.2 HSM.out (by have := HL'.out; omega) z).mono ?_
              rintro e w3 ⟨v2, rfl, hn2, ht3⟩
              have H3 : Hid (One w w3 q l ∧ RowV w3 (.slice A0 l.length cp0) l) := ⟨hm.out.2.1.nope ht3, hm.out.2.2.kp (Kp.ofNope ht3)⟩
              clear hn2 ht3
              go_wp2_with fail
              refine (tlevel_any H3.out.1 (by have := HL'.out; omega) z D HD.out.symm).mono ?_
              rintro e w4 ⟨v1, rfl, hn1, ht4⟩
              have H4 : Hid (One w w4 q l ∧ RowV w4 (.slice A0 l.length cp0) l) := ⟨H3.out.1.nope ht4, H3.out.2.kp (Kp.ofNope ht4)⟩
              have HN1 := Lib.hid hn1
              obtain ⟨A1, e1, rfl, _⟩ := hn1
              have HN2 : Hid (NumV w4 (.slice none 0 0) D) := by show NumV _ _ D; rw [HDN.out]; exact NumV.nil _
              clear ht4 H3
              go_wp2_with fail
              refine (sameN HN1.out HN2.out HDL.out).mono ?_
              rintro e w5 ⟨rfl, ht5⟩
              have H5 : Hid (One w w5 q l ∧ RowV w5 (.slice A0 l.length cp0) l) := ⟨H4.out.1.nope ht5, H4.out.2.kp (Kp.ofNope ht5)⟩
              clear ht5 H4 HN1 HN2
              go_wp2_with fail
              go_roundg (11 - m)
              case measure => omega
              case rel => exact ⟨m + 1, by go_num, by omega, H5.out⟩
            · have d2 : (z == 10) = false := by simpa using h10
              have HDE : Hid (levelZ z l = D) := by
                show _ = D
                rw [← hD]
                split
                · exact levelZ_neg (by omega) l
                · rfl
              clear hD h10
              go_wp2_with fail
              refine (rlevel_any hm.out.2.2 HSM.out (by have := HL'.out; omega) z).mono ?_
              rw [HDE.out]
              rintro e w3 ⟨v2, rfl, hn2, ht3⟩
              have H3 : Hid (One w w3 q l ∧ RowV w3 (.slice A0 l.length cp0) l) := ⟨hm.out.2.1.nope ht3, hm.out.2.2.kp (Kp.ofNope ht3)⟩
              have HN2 := Lib.hid hn2
              obtain ⟨A2, e2, rfl, _⟩ := hn2
              clear ht3
              go_wp2_with fail
              refine (tlevel_any H3.out.1 (by have := HL'.out; omega) z D HD.out.symm).mono ?_
              rintro e w4 ⟨v1, rfl, hn1, ht4⟩
              have H4 : Hid (One w w4 q l ∧ RowV w4 (.slice A0 l.length cp0) l) := ⟨H3.out.1.nope ht4, H3.out.2.kp (Kp.ofNope ht4)⟩
              have HN2' := Lib.hid (HN2.out.nope ht4)
              have HN1 := Lib.hid hn1
              obtain ⟨A1, e1, rfl, _⟩ := hn1
              clear ht4 H3 HN2
              go_wp2_with fail
              refine (sameN HN1.out HN2'.out HDL.out).mono ?_
              rintro e w5 ⟨rfl, ht5⟩
              have H5 : Hid (One w w5 q l ∧ RowV w5 (.slice A0 l.length cp0) l) := ⟨H4.out.1.nope ht5, H4.out.2.kp (Kp.ofNope ht5)⟩
              clear ht5 H4 HN1 HN2'
              go_wp2_with fail
              go_roundg (11 - m)
              case measure => omega
              case rel => exact ⟨m + 1, by go_num, by omega, H5.out⟩
          · obtain rfl : m = 12 := by omega
            have d1 : decide ((((12 : Nat) : Int) - 1) ≤ 10) = false := by decide
            have d1' : decide ((11 : Int) ≤ 10) = false := by decide
            have HQ := Lib.hid hm.out.2.1
            clear hm hm0 hlt
            go_wp2_with fail
            go_ret
            exact ⟨rfl, HQ.out.turn.nopeBelow⟩
end Go.Proofs.YtdkojpfhmohaeaaDoor
