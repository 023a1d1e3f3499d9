import Derived.Test.YtpcfgigmchndjaaArgs
namespace Go.Proofs.Ytpcfgigmchndjaa
open Go.RowKit Go.Maps
theorem cut8_size (s : ByteArray) : (cut8 s).size ≤ 8 := by
  unfold cut8
  split
  · simp; omega
  · omega
theorem and3 (c : Int) : ∃ j : Nat, j < 4 ∧ bits .and .i64 c 3 = (j : Int) := by
  refine ⟨(BitVec.ofInt 64 c &&& BitVec.ofInt 64 3).toNat, ?_, ?_⟩
  · rw [BitVec.toNat_and]
    exact Nat.lt_of_le_of_lt Nat.and_le_right (by decide)
  · have h : (BitVec.ofInt 64 c &&& BitVec.ofInt 64 3).toNat ≤ 3 := by
      rw [BitVec.toNat_and]
      exact Nat.le_trans Nat.and_le_right (by decide)
    show IntKind.i64.wrap (((BitVec.ofInt 64 c &&& BitVec.ofInt 64 3).toNat : Nat) : Int) = _
    exact IntWalk.i64_in _ ⟨by omega, by omega⟩
theorem swFold_app (cell : Int) (l : List Dn) (d : Dn) : swFold cell (l ++ [d]) = swStep cell (swFold cell l) d := by
  simp [swFold]
theorem bang_ne (s : ByteArray) : s ≠ s ++ ⟨#[33]⟩ := by
  intro h
  have := congrArg ByteArray.size h
  simp at this
  exact absurd this (by decide)
attribute [local go_sem] lib_max2 lib_min2 lib_max_two lib_min_two
set_option maxHeartbeats 4000000 in
theorem swap_walk (a : Option Addr) (len cap : Nat) (c : Int) (w : World) (hin : StrsIn w a len) :
    Calls Try.prog 6 #[.slice a len cap, .int .i64 c] w fun e w' => e = .returned (.bool true) ∧ Below w.heap.size w w' := by
  have HIN := Lib.hid hin
  clear hin
  obtain ⟨j, hj, hbits⟩ := and3 c
  go_enter Try.func6, Try.ntmps6
  go_wp2_with fail
  refine (awake_any _).mono ?_
  rintro e w1 ⟨rfl, ht⟩
  have HT1 := Lib.hid ht
  clear ht
  go_wp2_with fail
  refine (mem_new 4 (by omega) w _ HT1.out).mono ?_
  rintro e w2 ⟨g, rfl, hm⟩
  have HM2 := Lib.hid hm
  clear hm
  go_wp2_with fail
  go_loopg [6, 7] 30 (fun k v6 v7 wr => ∃ (i : Nat) (s : ByteArray) (cs : List ByteArray) (log : List Dn), v6 = .string s ∧ v7 = .int .i64 (i : Int) ∧ Hid (k + i = 30 ∧ i ≤ len ∧ s.size ≤ 8 ∧ cs[j]? = some s ∧ log.length = 2 * i ∧ swFold j log = ((i : Int), s)) ∧ Mem w g cs log wr)
  case atStart => exact ⟨0, ⟨#[]⟩, _, _, rfl, rfl, ⟨rfl, Nat.zero_le _, by decide, by rw [List.getElem?_replicate, if_pos hj], rfl, rfl⟩, HM2.out⟩
  case round =>
    obtain ⟨i, s, cs, log, rfl, rfl, hi, hm⟩ := hrel
    have HM3 := Lib.hid hm
    clear hm
    have hmin : ¬ (i < len ∧ i < 30) → (if (30 : Int) < (len : Int) then (30 : Int) else (len : Int)) = (i : Int) := by
      intro h
      have := hi.out.2.1
      have := hi.out.1
      split <;> omega
    by_cases hlt : i < len ∧ i < 30
    · clear hmin
      have b1 : decide ((i : Int) < (len : Int)) = true := by simp; omega
      have b1n : decide (i < len) = true := by simp; omega
      have b2 : decide ((i : Int) < (30 : Int)) = true := by simp; omega
      have b2n : decide (i < 30) = true := by simp; omega
      have hi1 := hlt.1
      have hi2 := hlt.2
      obtain ⟨ad, S, rfl, hS, c0⟩ := (HIN.out.later HM3.out.turn.nopeBelow).2 i hi1
      clear hlt
      go_wp2_with fail
      refine (cut_any S _).mono ?_
      rintro e w4 ⟨rfl, ht⟩
      have HM4 := Lib.hid (HM3.out.nope ht)
      clear ht c0 HM3
      have hcz := cut8_size S
      generalize cut8 S = T at *
      go_wp2_with fail
      refine (mem_swap _ HM4.out (by have := hi.out.2.2.2.2.1; omega) i (wf_small _ (by omega) (by omega)) j s hi.out.2.2.2.1 s T rfl).mono ?_
      rintro e w5 ⟨rfl, hm⟩
      have HM5 := Lib.hid hm
      clear hm HM4
      have q1 : (s.toList != s.toList) = false := by simp
      have hk : ∀ W, (Op.stringOp .add T ⟨#[33]⟩).run Try.prog W = .ok (.string (T ++ ⟨#[33]⟩)) W := fun W => run_string_add_sum W _ _ (by show T.size + 1 ≤ 9223372036854775807; omega)
      go_wp2_with fail
      refine (mem_miss _ HM5.out (by have := hi.out.2.2.2.2.1; simp; omega) i (wf_small _ (by omega) (by omega)) j T (by have := (List.getElem?_eq_some_iff.1 hi.out.2.2.2.1).1; simp [this]) _ _ (bang_ne T)).mono ?_
      rintro e w6 ⟨rfl, hm⟩
      have HM6 := Lib.hid hm
      clear hm HM5
      have hw : wrap64 ((i : Int) + 1) = (i : Int) + 1 := IntWalk.wrap64_in _ ⟨by omega, by omega⟩
      go_wp2_with fail
      go_roundg (29 - i)
      case measure => have := hi.out.1; omega
      case rel =>
        refine ⟨i + 1, T, _, _, rfl, by go_num, ⟨by omega, by omega, hcz, ?_, ?_, ?_⟩, HM6.out⟩
        · have := (List.getElem?_eq_some_iff.1 hi.out.2.2.2.1).1; simp [this]
        · have := hi.out.2.2.2.2.1; simp; omega
        · rw [swFold_app, swFold_app, hi.out.2.2.2.2.2]
          have := bang_ne T
          simp [swStep, this]
    · have hm := hmin hlt
      clear hmin
      by_cases h1 : i < len
      · have h30 : i = 30 := by have := hi.out.1; omega
        subst h30
        have b1 : decide ((30 : Int) < (len : Int)) = true := by simp; omega
        have b1n : decide (30 < len) = true := by simp; omega
        have hmn : (if 30 < len then (30 : Int) else (len : Int)) = 30 := if_pos h1
        clear hlt
        go_wp2_with fail
        refine (mem_look _ HM3.out j s hi.out.2.2.2.1).mono ?_
        rintro e w4 ⟨rfl, hm⟩
        have HM4 := Lib.hid hm
        clear hm HM3
        have q1 : (s.toList == s.toList) = true := by simp
        go_wp2_with fail
        refine (mem_swaps _ HM4.out (by have := hi.out.2.2.2.2.1; omega) j).mono ?_
        rintro e w5 ⟨rfl, hm⟩
        have HM5 := Lib.hid hm
        clear hm HM4
        rw [hi.out.2.2.2.2.2]
        go_wp2_with fail
        go_ret
        exact ⟨rfl, HM5.out.turn.nopeBelow⟩
      · have hil : i = len := by have := hi.out.2.1; omega
        subst hil
        have b1 : decide ((i : Int) < (i : Int)) = false := by simp
        have b1n : decide (i < i) = false := by simp
        have hmn : (if 30 < i then (30 : Int) else (i : Int)) = (i : Int) := by have := hi.out.1; rw [if_neg (by omega)]
        clear hlt h1
        go_wp2_with fail
        refine (mem_look _ HM3.out j s hi.out.2.2.2.1).mono ?_
        rintro e w4 ⟨rfl, hm⟩
        have HM4 := Lib.hid hm
        clear hm HM3
        have q1 : (s.toList == s.toList) = true := by simp
        go_wp2_with fail
        refine (mem_swaps _ HM4.out (by have := hi.out.2.2.2.2.1; omega) j).mono ?_
        rintro e w5 ⟨rfl, hm⟩
        have HM5 := Lib.hid hm
        clear hm HM4
        rw [hi.out.2.2.2.2.2]
        go_wp2_with fail
        go_ret
        exact ⟨rfl, HM5.out.turn.nopeBelow⟩
end Go.Proofs.Ytpcfgigmchndjaa
