/- TowerShape: the walk. -/
import Derived.Test.YtdkojpfhmohaeaaDoorShapeP
set_option linter.unusedVariables false
namespace Go.Proofs.YtdkojpfhmohaeaaDoor
open Go.RowKit TI
attribute [local go_sem] lib_min2 lib_min_two
set_option maxRecDepth 8000 in
set_option maxHeartbeats 16000000 in
theorem shape_walk (a : Option Addr) (len cap : Nat) (a' : Option Addr) (len' cap' : Nat) (w : World) (hin : IntsIn w a len ∧ len ≤ cap) (hin' : IntsIn w a' len') (hT : TabAt w) :
    Calls Tryd.prog 6 #[.slice a len cap, .slice a' len' cap'] w fun e w' => e = .returned (.bool true) ∧ Below w.heap.size w w' := by
  obtain ⟨⟨ls, hin⟩, hcap⟩ := hin
  obtain ⟨os, hin'⟩ := hin'
  have HIN := Lib.hid hin
  have HIO := Lib.hid hin'
  have HT := Lib.hid hT
  obtain ⟨n, hn⟩ : ∃ n, min len 40 = n := ⟨_, rfl⟩
  have n0 : (0 : Int) ≤ (n : Int) := by omega
  have ncap : (n : Int) ≤ (cap : Int) := by omega
  have nlen : n ≤ len := by omega
  have n40 : n ≤ 40 := by omega
  have hmin : (if (40 : Int) < (len : Int) then (40 : Int) else (len : Int)) = (n : Int) := by split <;> omega
  have hmin' : (if (len : Int) < (40 : Int) then (len : Int) else (40 : Int)) = (n : Int) := by split <;> omega
  have CL : Hid (∀ {W}, Turn Nope w W → ∀ j, j < len → (-9223372036854775808 ≤ ls j ∧ ls j ≤ 9223372036854775807) ∧ ∃ ad : Addr, a = some ad ∧ W.cell? (ad.add j) = some (.int .i64 (ls j))) := fun h j hj => by
    obtain ⟨hv, ad, e, c0⟩ := HIN.out.2 j hj
    exact ⟨hv, ad, e, cell_later h.nopeBelow c0⟩
  have CO : Hid (∀ {W}, Turn Nope w W → ∀ j, j < len' → (-9223372036854775808 ≤ os j ∧ os j ≤ 9223372036854775807) ∧ ∃ ad : Addr, a' = some ad ∧ W.cell? (ad.add j) = some (.int .i64 (os j))) := fun h j hj => by
    obtain ⟨hv, ad, e, c0⟩ := HIO.out.2 j hj
    exact ⟨hv, ad, e, cell_later h.nopeBelow c0⟩
  have HL : Hid (∀ {W}, Turn Nope w W → IntsAt W a len ls) := fun h => HIN.out.later h.nopeBelow
  clear hin hT hin' hn HIN HIO
  go_enter Tryd.func6, Tryd.ntmps6
  go_wp2_with fail
  refine (awake_any _ HT.out).mono ?_
  rintro e w1 ⟨rfl, ht⟩
  have HT1 := Lib.hid ht
  clear ht
  go_wp2_with fail
  refine (one_new w _ HT1.out).mono ?_
  rintro e w2 ⟨l, rfl, h, ht⟩
  have HQ2 := Lib.hid h
  clear h ht HT1
  go_wp2_with fail
  refine (two_new w _ HQ2.out).mono ?_
  rintro e w3 ⟨p, rfl, h⟩
  have HQ3 := Lib.hid h
  clear h HQ2
  go_wp2_with fail
  clear hmin hmin'
  go_loopg [8] n (fun k v8 wr => ∃ (i : Nat) (t : List (Int × Int)), v8 = .int .i64 (i : Int) ∧ Hid (k + i = n ∧ ShA ls i t ∧ Two w wr l p t []))
  case atStart => exact ⟨0, [], rfl, rfl, ShA.nil ls, HQ3.out⟩
  case round =>
    obtain ⟨i, t, rfl, hi⟩ := hrel
    clear HQ3
    have hi0 := hi.out.1
    have htl := hi.out.2.1.2.1
    by_cases hlt : i < n
    · have b1 : decide ((i : Int) < (n : Int)) = true := by simp; omega
      have b1n : decide (i < n) = true := by simp; omega
      have hw : wrap64 ((i : Int) + 1) = (i : Int) + 1 := IntWalk.wrap64_in _ ⟨by omega, by omega⟩
      obtain ⟨hv, ad, rfl, c0⟩ := CL.out hi.out.2.2.turn i (by omega)
      have i0 : (0 : Int) ≤ (i : Int) := by omega
      have i1 : (i : Int) < (len : Int) := by omega
      go_wp2_with fail
      refine (two_put hi.out.2.2 HT.out (ls i) hv.2 (by omega) (i : Int)).mono ?_
      rintro e w4 ⟨rfl, h4⟩
      have H4 := Lib.hid h4
      clear h4 c0
      go_wp2_with fail
      go_roundg (n - (i + 1))
      case measure => omega
      case rel => exact ⟨i + 1, insT (ls i, (i : Int)) t, by go_num, by omega, hi.out.2.1.add _, H4.out⟩
    · obtain rfl : i = n := by omega
      have b1 : decide ((i : Int) < (i : Int)) = false := by simp
      have HA := Lib.hid hi.out.2.1
      have HQ4 := Lib.hid hi.out.2.2
      have ht40 : t.length ≤ 40 := by omega
      have hw1 : wrap64 ((i : Int) - 1) = (i : Int) - 1 := IntWalk.wrap64_in _ ⟨by omega, by omega⟩
      clear hi hi0 hlt htl
      go_wp2_with fail
      go_loopg [9] i (fun k v9 wr => ∃ (m : Nat) (u : List (Int × Int)), v9 = .int .i64 ((m : Int) - 1) ∧ Hid (k = m ∧ m ≤ i ∧ ShB ls i m len' (2 * (i - m)) u ∧ Two w wr l p t u))
      case atStart => exact ⟨i, [], rfl, rfl, Nat.le_refl _, by rw [Nat.sub_self]; exact ShB.nil ls i len', HQ4.out⟩
      case round =>
        obtain ⟨m, u, rfl, hm⟩ := hrel
        clear HQ4 hw1 b1
        have hm0 := hm.out.1
        have hmi := hm.out.2.1
        have hul := hm.out.2.2.1.2.1
        by_cases hlt : 0 < m
        · obtain ⟨m, rfl⟩ : ∃ m', m = m' + 1 := ⟨m - 1, by omega⟩
          have hj : (((m + 1 : Nat) : Int) - 1) = (m : Int) := by omega
          rw [hj]
          have b1 : decide ((m : Int) ≥ 0) = true := by simp
          have b1' : decide ((0 : Int) ≤ (m : Int)) = true := by simp
          have b1n : decide (0 ≤ m) = true := by simp
          have hw : wrap64 ((m : Int) - 1) = (m : Int) - 1 := IntWalk.wrap64_in _ ⟨by omega, by omega⟩
          have m0 : (0 : Int) ≤ (m : Int) := by omega
          have m1 : (m : Int) < (len : Int) := by omega
          have hB := Lib.hid hm.out.2.2.1
          have hQ := Lib.hid hm.out.2.2.2
          obtain ⟨hv, ad, rfl, c0⟩ := CL.out hQ.out.turn m (by omega)
          clear hm
          by_cases hq : m < len'
          · obtain ⟨hov, od, rfl, o0⟩ := CO.out hQ.out.turn m hq
            have m2 : (m : Int) < (len' : Int) := by omega
            have g1 : decide ((m : Int) < (len' : Int)) = true := by simpa using m2
            have g1n : decide (m < len') = true := by simpa using hq
            obtain ⟨r, hr⟩ : ∃ r, hasN ls i (os m) = r := ⟨_, rfl⟩
            have HR : Hid (∀ {W}, Turn Nope w W → Calls Tryd.prog 17 #[.slice (some ad) i cap, .int .i64 (os m)] W fun e w' => e = .returned (.bool r) ∧ w' = W) := fun h => by rw [← hr]; exact (has_any (HL.out h) nlen (by omega) (os m)).mono fun _ _ h => ⟨h.1, h.2.symm⟩
            have HQT : Hid (∀ k, Turn Nope w (wr.drewN k)) := fun k => hQ.out.turn.drewN k
            cases r with
            | true =>
              go_wp2_with (first | (go_quiet ((go_at_call 17; exact Calls.quiet_of_same (HR.out (HQT.out _))))))
              refine (two_put (hQ.out.nope (by repeat (first | exact Turn.refl _ _ | apply Turn.drewN | apply Turn.drew))).flip HT.out (ls m) hv.2 (by omega) (m : Int)).mono ?_
              rintro e w5 ⟨rfl, h5⟩
              have H5 := Lib.hid h5.flip
              clear h5
              go_wp2_with fail
              go_roundg m
              case measure => omega
              case rel => exact ⟨m, insT (ls m, (m : Int)) u, rfl, rfl, by omega, (hB.out.add _ (by omega)).up (by omega), H5.out⟩
            | false =>
              go_wp2_with (first | (go_quiet ((go_at_call 17; exact Calls.quiet_of_same (HR.out (HQT.out _))))))
              refine (two_put (hQ.out.nope (by repeat (first | exact Turn.refl _ _ | apply Turn.drewN | apply Turn.drew))).flip HT.out (os m) hov.2 (by omega) (-1)).mono ?_
              rintro e w5 ⟨rfl, h5⟩
              have H5 := Lib.hid h5.flip
              clear h5 c0
              obtain ⟨_, _, e0, c0⟩ := CL.out H5.out.turn m (by omega)
              cases e0
              have HU := Lib.hid (insT_len (os m, (-1 : Int)) u)
              have hul2 := HU.out
              go_wp2_with fail
              refine (two_put H5.out.flip HT.out (ls m) hv.2 (by omega) (m : Int)).mono ?_
              rintro e w6 ⟨rfl, h6⟩
              have H6 := Lib.hid h6.flip
              clear h6
              go_wp2_with fail
              go_roundg m
              case measure => omega
              case rel => exact ⟨m, insT (ls m, (m : Int)) (insT (os m, (-1 : Int)) u), rfl, rfl, by omega, ((hB.out.other _ _ (by omega)).add _ (by omega)).up (by omega), H6.out⟩
          · have g1 : decide ((m : Int) < (len' : Int)) = false := by simp; omega
            have g1n : decide (m < len') = false := by simp; omega
            go_wp2_with (first | (go_quiet (fail)))
            refine (two_put (hQ.out.nope (by repeat (first | exact Turn.refl _ _ | apply Turn.drewN | apply Turn.drew))).flip HT.out (ls m) hv.2 (by omega) (m : Int)).mono ?_
            rintro e w5 ⟨rfl, h5⟩
            have H5 := Lib.hid h5.flip
            clear h5
            go_wp2_with fail
            go_roundg m
            case measure => omega
            case rel => exact ⟨m, insT (ls m, (m : Int)) u, rfl, rfl, by omega, (hB.out.add _ (by omega)).up (by omega), H5.out⟩
        · obtain rfl : m = 0 := by omega
          have b1 : decide ((((0 : Nat) : Int) - 1) ≥ 0) = false := by decide
          have b1' : decide ((-1 : Int) ≥ 0) = false := by decide
          have b1'' : decide ((0 : Int) ≤ (-1 : Int)) = false := by decide
          have HB : Hid (ShB ls i 0 len' 80 u) := hm.out.2.2.1.up (by omega)
          have HQ5 := Lib.hid hm.out.2.2.2
          clear hm hlt hm0 hmi hul
          go_wp2_with fail
          go_loopg [10] i (fun k v10 wr => ∃ (m : Nat) (u : List (Int × Int)), v10 = .int .i64 (m : Int) ∧ Hid (k + m = i ∧ ShB ls i 0 len' 80 u ∧ Two w wr l p t u))
          case atStart => exact ⟨0, u, rfl, rfl, HB.out, HQ5.out⟩
          case round =>
            clear HB HQ5 b1 b1' b1''
            clear u
            obtain ⟨m, u, rfl, hm⟩ := hrel
            have hm0 := hm.out.1
            by_cases hlt : m < i ∧ m < len'
            · have b1 : decide ((m : Int) < (i : Int)) = true := by simp; omega
              have b1n : decide (m < i) = true := by simp; omega
              have b2 : decide ((m : Int) < (len' : Int)) = true := by simp; omega
              have b2n : decide (m < len') = true := by simp; omega
              have hw : wrap64 ((m : Int) + 1) = (m : Int) + 1 := IntWalk.wrap64_in _ ⟨by omega, by omega⟩
              have m0 : (0 : Int) ≤ (m : Int) := by omega
              have m2 : (m : Int) < (len' : Int) := by omega
              have hB := Lib.hid hm.out.2.1
              have hQ := Lib.hid hm.out.2.2
              clear hm
              obtain ⟨hov, od, rfl, o0⟩ := CO.out hQ.out.turn m hlt.2
              have hul := hB.out.2.1
              obtain ⟨r, hr⟩ : ∃ r, hasN ls i (os m) = r := ⟨_, rfl⟩
              have HR : Hid (∀ {W}, Turn Nope w W → Calls Tryd.prog 17 #[.slice a i cap, .int .i64 (os m)] W fun e w' => e = .returned (.bool r) ∧ w' = W) := fun h => by rw [← hr]; exact (has_any (HL.out h) nlen (by omega) (os m)).mono fun _ _ h => ⟨h.1, h.2.symm⟩
              have HQT : Hid (∀ k, Turn Nope w (wr.drewN k)) := fun k => hQ.out.turn.drewN k
              obtain ⟨ad0, ea, _⟩ := (CL.out hQ.out.turn m (by omega)).2
              cases ea
              cases r with
              | true =>
                go_wp2_with (first | (go_quiet ((go_at_call 17; exact Calls.quiet_of_same (HR.out (HQT.out _))))))
                go_roundg (i - (m + 1))
                case measure => omega
                case rel => exact ⟨m + 1, u, by go_num, by omega, hB.out, hQ.out.nope (by repeat (first | exact Turn.refl _ _ | apply Turn.drewN | apply Turn.drew))⟩
              | false =>
                have HNO := Lib.hid hr
                by_cases hbig : os m < 4611686018427387904
                · have g2 : decide (os m < 4611686018427387904) = true := by simpa using hbig
                  have hw2 : wrap64 (os m + 1) = os m + 1 := IntWalk.wrap64_in _ ⟨by omega, by omega⟩
                  clear hr
                  go_wp2_with (first | (go_quiet ((go_at_call 17; exact Calls.quiet_of_same (HR.out (HQT.out _))))) | (refine still_tail (id := 19) 10 (by kernel_rfl) (by kernel_rfl) ?_; simp only [List.take_succ_cons, List.take_zero, List.drop_succ_cons, List.drop_zero]; (repeat still_step); refine wpStill_nil ?_))
                  refine (two_cut (hQ.out.nope (by repeat (first | exact Turn.refl _ _ | apply Turn.drewN | apply Turn.drew))).flip (by omega) (os m) (os m + 1)).mono ?_
                  rintro e w5 ⟨rfl, h5⟩
                  have H5 := Lib.hid h5.flip
                  clear h5
                  go_wp2_with fail
                  go_roundg (i - (m + 1))
                  case measure => omega
                  case rel => exact ⟨m + 1, cutT (os m) (os m + 1) u, by go_num, by omega, hB.out.cut _ HNO.out, H5.out⟩
                · have g2 : decide (os m < 4611686018427387904) = false := by simpa using hbig
                  go_wp2_with (first | (go_quiet ((go_at_call 17; exact Calls.quiet_of_same (HR.out (HQT.out _))))))
                  go_roundg (i - (m + 1))
                  case measure => omega
                  case rel => exact ⟨m + 1, u, by go_num, by omega, hB.out, hQ.out.nope (by repeat (first | exact Turn.refl _ _ | apply Turn.drewN | apply Turn.drew))⟩
            · have HB := Lib.hid hm.out.2.1
              have HQ6 := Lib.hid hm.out.2.2
              have hul := HB.out.2.1
              have hex : (m < i ∧ m = len') ∨ (m < i ∧ len' < m) ∨ m = i := by omega
              have hex : (m < i ∧ len' ≤ m) ∨ m = i := by omega
              have hle := sh_le HA.out HB.out
              clear hm hlt
              rcases hex with ⟨h1, h2⟩ | h1
              · have b1 : decide ((m : Int) < (i : Int)) = true := by simp; omega
                have b1n : decide (m < i) = true := by simp; omega
                have b2 : decide ((m : Int) < (len' : Int)) = false := by simp; omega
                have b2n : decide (m < len') = false := by simp; omega
                clear h1 h2
                have q1 : decide ((t.length : Int) > (u.length : Int)) = false := by simp; omega
                have q1' : decide ((u.length : Int) < (t.length : Int)) = false := by simp; omega
                have q1n : decide (u.length < t.length) = false := by simp; omega
                go_wp2_with fail
                refine (two_len HQ6.out).mono ?_
                rintro e w7 ⟨rfl, rfl⟩
                go_wp2_with fail
                refine (two_len HQ6.out.flip).mono ?_
                rintro e w8 ⟨rfl, rfl⟩
                go_wp2_with fail
                refine (two_len HQ6.out).mono ?_
                rintro e w7 ⟨rfl, rfl⟩
                go_wp2_with fail
                refine (two_len HQ6.out.flip).mono ?_
                rintro e w8 ⟨rfl, rfl⟩
                by_cases hs : t.length < u.length
                · have q2 : decide ((t.length : Int) < (u.length : Int)) = true := by simpa using hs
                  have q2n : decide (t.length < u.length) = true := by simpa using hs
                  have hq := sh_lt HA.out HB.out hs
                  have q3 : decide ((len' : Int) > 0) = true := by simp; omega
                  have q3' : decide ((0 : Int) < (len' : Int)) = true := by simp; omega
                  have q3n : decide (0 < len') = true := by simp; omega
                  go_wp2_with fail
                  go_ret
                  exact ⟨rfl, HQ6.out.turn.nopeBelow⟩
                · have q2 : decide ((t.length : Int) < (u.length : Int)) = false := by simpa using hs
                  have q2n : decide (t.length < u.length) = false := by simpa using hs
                  have HE : Hid (∀ r, levelT r t = levelT r u) := fun r => sh_eq HA.out HB.out (by omega) r
                  clear hs
                  go_wp2_with fail
                  go_loopg [11, 116] 10 (fun k v11 v116 wr => ∃ (r : Nat), v116 = .int .i64 (r : Int) ∧ Hid (k + r = 10 ∧ Two w wr l p t u))
                  case atStart => exact ⟨0, rfl, rfl, HQ6.out⟩
                  case round =>
                    obtain ⟨r, rfl, hr⟩ := hrel
                    clear HQ6 q1 q1' q1n q2 q2n b1 b1n n0 ncap hcap nlen n40
                    have hr0 := hr.out.1
                    by_cases hlt : r < 10
                    · have d1 : decide ((r : Int) < 10) = true := by simp; omega
                      have d1n : decide (r < 10) = true := by simp; omega
                      have hw : wrap64 ((r : Int) + 1) = (r : Int) + 1 := IntWalk.wrap64_in _ ⟨by omega, by omega⟩
                      have HLL : Hid ((levelT r t).length ≤ 1000000) := Nat.le_trans (level_le r t) (by omega)
                      go_wp2_with fail
                      refine (two_level hr.out.2 (by omega) r hlt).mono ?_
                      rintro e w5 ⟨v1, rfl, hr1, h5, _⟩
                      have H5 := Lib.hid h5
                      have HR1 := Lib.hid hr1
                      obtain ⟨A1, c1, rfl, _⟩ := own_slice hr1
                      clear h5 hr1
                      go_wp2_with fail
                      refine (two_level H5.out.flip (by omega) r hlt).mono ?_
                      rw [← HE.out r]
                      rintro e w6 ⟨v2, rfl, hr2, h6, ht6⟩
                      have H6 := Lib.hid h6.flip
                      have HR2 := Lib.hid hr2
                      have HR1' := Lib.hid (own_nope HR1.out ht6)
                      obtain ⟨A2, c2, rfl, _⟩ := own_slice hr2
                      clear h6 hr2 ht6 HR1
                      go_wp2_with fail
                      refine (same_any HR1'.out HR2.out HLL.out).mono ?_
                      rintro e w7 ⟨rfl, ht7⟩
                      have H7 := Lib.hid (H6.out.nope ht7)
                      clear ht7 H6 H5 HR1' HR2
                      go_wp2_with fail
                      go_roundg (10 - (r + 1))
                      case measure => omega
                      case rel => exact ⟨r + 1, by go_num, by omega, H7.out⟩
                    · obtain rfl : r = 10 := by omega
                      have d1 : decide (((10 : Nat) : Int) < 10) = false := by simp
                      have d1' : decide ((10 : Int) < 10) = false := by simp
                      go_wp2_with fail
                      go_ret
                      exact ⟨rfl, hr.out.2.turn.nopeBelow⟩
              · have b1 : decide ((m : Int) < (i : Int)) = false := by simp; omega
                have b1n : decide (m < i) = false := by simp; omega
                clear h1
                have q1 : decide ((t.length : Int) > (u.length : Int)) = false := by simp; omega
                have q1' : decide ((u.length : Int) < (t.length : Int)) = false := by simp; omega
                have q1n : decide (u.length < t.length) = false := by simp; omega
                go_wp2_with fail
                refine (two_len HQ6.out).mono ?_
                rintro e w7 ⟨rfl, rfl⟩
                go_wp2_with fail
                refine (two_len HQ6.out.flip).mono ?_
                rintro e w8 ⟨rfl, rfl⟩
                go_wp2_with fail
                refine (two_len HQ6.out).mono ?_
                rintro e w7 ⟨rfl, rfl⟩
                go_wp2_with fail
                refine (two_len HQ6.out.flip).mono ?_
                rintro e w8 ⟨rfl, rfl⟩
                by_cases hs : t.length < u.length
                · have q2 : decide ((t.length : Int) < (u.length : Int)) = true := by simpa using hs
                  have q2n : decide (t.length < u.length) = true := by simpa using hs
                  have hq := sh_lt HA.out HB.out hs
                  have q3 : decide ((len' : Int) > 0) = true := by simp; omega
                  have q3' : decide ((0 : Int) < (len' : Int)) = true := by simp; omega
                  have q3n : decide (0 < len') = true := by simp; omega
                  go_wp2_with fail
                  go_ret
                  exact ⟨rfl, HQ6.out.turn.nopeBelow⟩
                · have q2 : decide ((t.length : Int) < (u.length : Int)) = false := by simpa using hs
                  have q2n : decide (t.length < u.length) = false := by simpa using hs
                  have HE : Hid (∀ r, levelT r t = levelT r u) := fun r => sh_eq HA.out HB.out (by omega) r
                  clear hs
                  go_wp2_with fail
                  go_loopg [11, 116] 10 (fun k v11 v116 wr => ∃ (r : Nat), v116 = .int .i64 (r : Int) ∧ Hid (k + r = 10 ∧ Two w wr l p t u))
                  case atStart => exact ⟨0, rfl, rfl, HQ6.out⟩
                  case round =>
                    obtain ⟨r, rfl, hr⟩ := hrel
                    clear HQ6 q1 q1' q1n q2 q2n b1 b1n n0 ncap hcap nlen n40
                    have hr0 := hr.out.1
                    by_cases hlt : r < 10
                    · have d1 : decide ((r : Int) < 10) = true := by simp; omega
                      have d1n : decide (r < 10) = true := by simp; omega
                      have hw : wrap64 ((r : Int) + 1) = (r : Int) + 1 := IntWalk.wrap64_in _ ⟨by omega, by omega⟩
                      have HLL : Hid ((levelT r t).length ≤ 1000000) := Nat.le_trans (level_le r t) (by omega)
                      go_wp2_with fail
                      refine (two_level hr.out.2 (by omega) r hlt).mono ?_
                      rintro e w5 ⟨v1, rfl, hr1, h5, _⟩
                      have H5 := Lib.hid h5
                      have HR1 := Lib.hid hr1
                      obtain ⟨A1, c1, rfl, _⟩ := own_slice hr1
                      clear h5 hr1
                      go_wp2_with fail
                      refine (two_level H5.out.flip (by omega) r hlt).mono ?_
                      rw [← HE.out r]
                      rintro e w6 ⟨v2, rfl, hr2, h6, ht6⟩
                      have H6 := Lib.hid h6.flip
                      have HR2 := Lib.hid hr2
                      have HR1' := Lib.hid (own_nope HR1.out ht6)
                      obtain ⟨A2, c2, rfl, _⟩ := own_slice hr2
                      clear h6 hr2 ht6 HR1
                      go_wp2_with fail
                      refine (same_any HR1'.out HR2.out HLL.out).mono ?_
                      rintro e w7 ⟨rfl, ht7⟩
                      have H7 := Lib.hid (H6.out.nope ht7)
                      clear ht7 H6 H5 HR1' HR2
                      go_wp2_with fail
                      go_roundg (10 - (r + 1))
                      case measure => omega
                      case rel => exact ⟨r + 1, by go_num, by omega, H7.out⟩
                    · obtain rfl : r = 10 := by omega
                      have d1 : decide (((10 : Nat) : Int) < 10) = false := by simp
                      have d1' : decide ((10 : Int) < 10) = false := by simp
                      go_wp2_with fail
                      go_ret
                      exact ⟨rfl, hr.out.2.turn.nopeBelow⟩
end Go.Proofs.YtdkojpfhmohaeaaDoor
