/- Processes of one pace: the walk of SchedFair. -/
import Derived.Test.YtdojdhpfhjhmfaaFairP
set_option maxRecDepth 16000
set_option linter.unusedVariables false
namespace Go.Proofs.Ytdojdhpfhjhmfaa
open Go.RowKit
attribute [local go_sem] lib_max2 lib_min2 lib_max_two lib_min_two
def rep (k p : Nat) : List Value := List.replicate k (.int .i64 (p : Int))
theorem row_nums {w : World} {b g c k p : Nat} (h : w.ownsRow b 3 1 (.slice (some ⟨g, 0, none⟩) k c) k (rep k p)) : NumsAt w (some ⟨g, 0, none⟩) (List.replicate k (p : Int)) := by
  intro j x hj
  refine ⟨_, rfl, ?_⟩
  have hjk : j < k := by
    have := (List.getElem?_eq_some_iff.1 hj).1
    simpa using this
  rw [List.getElem?_replicate, if_pos hjk] at hj
  injection hj with hj
  subst hj
  have key : (⟨g, 0, none⟩ : Addr).add j = ⟨g, j, none⟩ := by unfold Addr.add; split <;> simp_all
  rw [key]
  exact own_elem h j (by unfold rep; rw [List.getElem?_replicate, if_pos hjk])
theorem mul_bd {p E : Nat} (h1 : p ≤ 256) (h2 : E ≤ 101) : p * E ≤ 25856 := Nat.le_trans (Nat.mul_le_mul h1 h2) (Nat.le_refl _)
set_option maxHeartbeats 4000000 in
theorem fair_walk (n0 pace0 turns : Int) (w : World) : Calls Try.prog 4 #[.int .i64 n0, .int .i64 pace0, .int .i64 turns] w fun e w' => e = .returned (.bool true) ∧ Below w.heap.size w w' := by
  obtain ⟨M, hM, hMe0⟩ := and_upto n0 7 (by decide) (by decide)
  obtain ⟨p0, hp0, hpe0⟩ := and_upto pace0 255 (by decide) (by decide)
  obtain ⟨p, hp⟩ : ∃ p : Nat, 1 + p0 = p := ⟨_, rfl⟩
  obtain ⟨N, hN⟩ : ∃ N : Nat, 1 + M = N := ⟨_, rfl⟩
  have hMe : bits .and .i64 n0 7 = (M : Int) := hMe0
  have hpe : bits .and .i64 pace0 255 = (p0 : Int) := hpe0
  clear hMe0 hpe0
  have hw1 : wrap64 (1 + (M : Int)) = (N : Int) := by rw [← hN]; have := IntWalk.wrap64_in (1 + (M : Int)) ⟨by omega, by omega⟩; rw [this]; omega
  have hw2 : wrap64 (1 + (p0 : Int)) = (p : Int) := by rw [← hp]; have := IntWalk.wrap64_in (1 + (p0 : Int)) ⟨by omega, by omega⟩; rw [this]; omega
  obtain ⟨m, hm1, hm⟩ : ∃ m : Nat, m ≤ 100 ∧ (if 100 < (if turns < 0 then 0 else turns) then 100 else (if turns < 0 then 0 else turns)) = (m : Int) := by
    refine ⟨(if 100 < (if turns < 0 then 0 else turns) then 100 else (if turns < 0 then 0 else turns)).toNat, ?_, ?_⟩ <;> (repeat' split) <;> omega
  obtain ⟨x1, hx1⟩ : ∃ x1, (if turns < 0 then 0 else turns) = x1 := ⟨_, rfl⟩
  rw [hx1] at hm
  obtain ⟨i3, hi3, hz3, hs3, hb3⟩ := info_parts Try.info3
  have I3 := Lib.hid (And.intro hi3 (And.intro hz3 (And.intro hs3 hb3)))
  have HN := Lib.hid hN
  have HP := Lib.hid (And.intro hp (And.intro hp0 hM))
  have HM := Lib.hid hm
  have HX := Lib.hid hx1
  clear hi3 hz3 hs3 hb3 hN hp hp0 hM hm hx1
  go_enter Try.func4, Try.ntmps4
  go_wp2_with fail
  refine (awake_any _).mono ?_
  rintro e w1 ⟨rfl, ht⟩
  have HT1 := Lib.hid ht
  clear ht
  go_wp2_with fail
  have HR0 : Hid ((w1.alloc (.cells #[] 3)).ownsRow w.heap.size 3 1 (.slice (some ⟨w1.heap.size, 0, none⟩) 0 0) 0 (rep 0 p)) := ⟨rfl, .inr ⟨w1.heap.size, 0, #[], rfl, HT1.out.size, blk_new _ _, Nat.le_refl _, Nat.zero_le _, rfl, rfl⟩⟩
  simp only [hw1, hw2]
  clear hMe hpe hw1 hw2
  have HTA : Hid (Turn Nope w (w1.alloc (.cells #[] 3))) := HT1.out.alloc _
  go_loopg [7, 22] N (fun k u7 v22 wr => ∃ (i : Nat), v22 = .int .i64 (i : Int) ∧ Hid (k + i = N) ∧ Hid (wr.ownsRow w.heap.size 3 1 u7 i (rep i p) ∧ Turn Nope w wr ∧ ∃ g c, u7 = .slice (some ⟨g, 0, none⟩) i c))
  case atStart => exact ⟨0, rfl, rfl, HR0.out, HTA.out, _, _, rfl⟩
  case round =>
    obtain ⟨i, rfl, hk, hS⟩ := hrel
    clear HR0 HTA
    have hN8 : N ≤ 8 := by have := HN.out; have := HP.out.2.2; omega
    by_cases hlt : i < N
    · have b1 : decide ((i : Int) < (N : Int)) = true := by simp; omega
      have b1n : decide (i < N) = true := by simp; omega
      have hw : wrap64 ((i : Int) + 1) = (i : Int) + 1 := IntWalk.wrap64_in _ ⟨by omega, by omega⟩
      go_wp2_with ((at_builtin; go_loud (refine wpList_append_lies _ rfl _ _ _ rfl w.heap.size 3 i3 _ 1 8 Try.underlying22 I3.out.1 I3.out.2.1 I3.out.2.2.1 I3.out.2.2.2 rfl (by omega) u7 i (rep i p) rfl (own_nope hS.out.1 ((Turn.refl _ _).alloc _)) ⟨wr.heap.size, 0, none⟩ 1 1 [.int .i64 (p : Int)] rfl rfl (news_new wr _ 3) (by intro u hu; simp at hu; subst hu; rfl) (by omega) (by show i + 1 ≤ 9223372036854775807; omega) (by omega) (Nat.le_trans hS.out.2.1.size (by simp)) (wr.heap.size + 1) (by simp) ?_; intro g1 cap1 w6 hown hgr hat hlt2; have HO6 := Lib.hid hown; have HG6 := Lib.hid hgr; clear hown hgr hat hlt2)))
      go_roundg (N - (i + 1))
      case measure => have := hk.out; omega
      case rel =>
        refine ⟨i + 1, by go_num, by have := hk.out; show _ = _; omega, ?_, (hS.out.2.1.alloc _).growR HG6.out (own_nope hS.out.1 ((Turn.refl _ _).alloc _)) (Nat.le_refl _), _, _, rfl⟩
        have h1 := HO6.out
        unfold rep at *
        rw [List.replicate_succ']
        exact h1
    · obtain rfl : i = N := by have := hk.out; omega
      have b1 : decide ((i : Int) < (i : Int)) = false := by simp
      clear hlt
      obtain ⟨hr, ht, g, c, rfl⟩ := hS.out
      have HT2 := Lib.hid ht
      have HNA := Lib.hid (row_nums hr)
      have hlen : (List.replicate i (p : Int)).length = i := List.length_replicate
      have HLEN := Lib.hid hlen
      clear hr ht hlen hS
      go_wp2_with fail
      have hnew := sch_new _ (some ⟨g, 0, none⟩) c (List.replicate i (p : Int)) HNA.out (by rw [HLEN.out]; omega)
      rw [HLEN.out, pace_same p (by have := HP.out.1; have := HP.out.2.1; omega)] at hnew
      refine hnew.mono ?_
      rintro e w3 ⟨s, q, pv, rfl, h3⟩
      have hNM : i = M + 1 := by have := HN.out; omega
      rw [hNM, fair_start M p (by have := HP.out.1; omega), ← hNM] at h3
      have HNM := Lib.hid hNM
      clear hNM
      have H3 := Lib.hid (h3.base HT2.out)
      clear hnew h3
      have hm := HM.out
      have hx1 := HX.out
      go_wp2_with fail
      clear hm hx1
      go_loopg [34] m (fun k v34 wr => ∃ (j : Nat), v34 = .int .i64 (j : Int) ∧ Hid (k + j = m) ∧ Hid (Sch w wr s q pv (List.replicate i (p : Int)) (fairS M p j)))
      case atStart => exact ⟨0, rfl, rfl, H3.out⟩
      case round =>
        obtain ⟨k, rfl, hk2, hS⟩ := hrel
        clear H3
        have hi8 : i ≤ 8 := by have := HNM.out; have := HP.out.2.2; omega
        have hi0 : 0 < i := by have := HNM.out; omega
        have hp1 : 0 < p ∧ p ≤ 256 := by have := HP.out.1; have := HP.out.2.1; omega
        have HI := Lib.hid (And.intro hi8 (And.intro hi0 hp1))
        clear hi8 hi0 hp1
        by_cases hlt : k < m
        · have b1 : decide ((k : Int) < (m : Int)) = true := by simp; omega
          have b1n : decide (k < m) = true := by simp; omega
          have HW : Hid (wrap64 ((k : Int) + 1) = (k : Int) + 1) := IntWalk.wrap64_in _ ⟨by omega, by omega⟩
          have hst := fair_step M p k HI.out.2.2.1
          rw [← HNM.out] at hst
          obtain ⟨jj, hjj⟩ : ∃ jj, k % i = jj := ⟨_, rfl⟩
          obtain ⟨dd, hdd⟩ : ∃ dd, k / i = dd := ⟨_, rfl⟩
          rw [hjj] at hst
          have HST := Lib.hid hst
          have HJ : Hid (Int.tmod (k : Int) (i : Int) = (jj : Int)) := by rw [← hjj]; rfl
          have HDV : Hid (Int.tdiv (k : Int) (i : Int) = (dd : Int)) := by rw [← hdd]; rfl
          have hdk : dd ≤ 100 := by rw [← hdd]; exact Nat.le_trans (Nat.div_le_self _ _) (by omega)
          have HT : Hid ((fairS M p (k + 1)).t = ((p * (1 + dd) : Nat) : Int)) := by
            show (if k + 1 = 0 then 0 else ((p * (1 + (k + 1 - 1) / (M + 1)) : Nat) : Int)) = _
            rw [if_neg (by omega), Nat.add_sub_cancel, ← HNM.out, hdd]
          obtain ⟨E, hE⟩ : ∃ E, 1 + dd = E := ⟨_, rfl⟩
          have hE1 : wrap64 (1 + (dd : Int)) = (E : Int) := by have := IntWalk.wrap64_in (1 + (dd : Int)) ⟨by omega, by omega⟩; rw [this]; omega
          have hE101 : E ≤ 101 := by omega
          have hpE : p * E ≤ 25856 := mul_bd HI.out.2.2.2 hE101
          obtain ⟨T, hT⟩ : ∃ T, p * E = T := ⟨_, rfl⟩
          have hT0 : (p : Int) * (E : Int) = (T : Int) := by rw [← hT]; exact (Int.natCast_mul p E).symm
          have hT1 : wrap64 ((p : Int) * (E : Int)) = (T : Int) := by rw [hT0]; exact IntWalk.wrap64_in _ ⟨by omega, by omega⟩
          have HT2 : Hid ((fairS M p (k + 1)).t = (T : Int)) := by show _ = _; rw [HT.out, hE, hT]
          have HE1 := Lib.hid hE1
          have HD0 : Hid (wrap64 (dd : Int) = (dd : Int)) := IntWalk.wrap64_in _ ⟨by omega, by omega⟩
          have HT1 := Lib.hid hT1
          have HBD : Hid ((fairS M p k).l.length ≤ 999 ∧ (fairS M p k).n ≤ 900000) := by
            refine ⟨?_, ?_⟩
            · show (fairL M p k).length ≤ 999
              unfold fairL
              rw [List.length_map, List.length_range]; have := HNM.out; have := HI.out.1; omega
            · show M + 1 + k ≤ 900000
              have := HNM.out; have := HI.out.1; omega
          clear hst hjj hdd hdk hE hE1 hpE hT hT0 hT1 HT hE101
          go_wp2_with fail
          refine (sch_next_some hS.out HBD.out.1 HBD.out.2 HST.out).mono ?_
          rintro e w4 ⟨rfl, h4, _⟩
          have H4 := Lib.hid h4
          clear h4
          have hnz1 : ¬ (i : Int) = 0 := by have := HI.out.2.1; omega
          have hnz2 : ¬ i = 0 := by have := HI.out.2.1; omega
          have htm := HJ.out
          have htd := HDV.out
          have n1 : ((jj : Int) != (jj : Int)) = false := by simp
          have HTK : Hid (∀ n, Calls Try.prog 12 #[.pointer (some ⟨s, 0, none⟩)] (w4.drewN n) fun e w' => e = .returned (.int .i64 (T : Int)) ∧ w' = w4.drewN n) := by
            intro n
            have htick := sch_tick (H4.out.nope ((Turn.refl _ _).drewN n))
            rw [HT2.out] at htick
            exact htick
          go_wp2_with (go_quiet ((go_at_call 12; exact Calls.quiet_of_same (HTK.out _))))
          · exfalso
            rename_i hne
            rw [HD0.out, HE1.out, HT1.out] at hne
            simp at hne
          have hw := HW.out
          go_roundg (m - (k + 1))
          case measure => have := hk2.out; omega
          case rel => exact ⟨k + 1, by go_num, by have := hk2.out; show _ = _; omega, H4.out.nope (by repeat (first | exact Turn.refl _ _ | apply Turn.drewN | apply Turn.drew))⟩
        · have b1 : decide ((k : Int) < (m : Int)) = false := by simp; omega
          have b1n : decide (k < m) = false := by simp; omega
          clear hlt
          have c0 := blk_cell hS.out.at_.hs 0
          simp only [List.getElem?_toArray, List.getElem?_cons_zero] at c0
          have HLL : Hid ((fairS M p k).l.length = i) := by
            show (fairL M p k).length = i
            unfold fairL
            rw [List.length_map, List.length_range]; exact HNM.out.symm
          have hlen := sch_len hS.out
          rw [HLL.out] at hlen
          have n1 : ((i : Int) == (i : Int)) = true := by simp
          go_wp2_with fail
          refine hlen.mono ?_
          rintro e w4 ⟨rfl, rfl⟩
          go_wp2_with fail
          go_ret
          exact ⟨rfl, hS.out.turn.nopeBelow⟩
end Go.Proofs.Ytdojdhpfhjhmfaa
