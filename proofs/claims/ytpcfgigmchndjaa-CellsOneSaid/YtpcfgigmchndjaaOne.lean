import Derived.Test.YtpcfgigmchndjaaSwap
namespace Go.Proofs.Ytpcfgigmchndjaa
open Go.RowKit Go.Maps
theorem list_ne_true {a b : ByteArray} (h : a ≠ b) : (a.toList != b.toList) = true := by
  have := list_ne h
  simp [bne, this]
/-- Where the round stands: none is done yet, or one is. -/
def OneAt (first want : ByteArray) (done : Int) (log : List Dn) : Prop := (done = 0 ∧ want = first ∧ swFold 1 log = (0, first)) ∨ (done = 1 ∧ want ≠ first ∧ swFold 1 log = (1, want))
set_option maxHeartbeats 4000000 in
theorem one_walk (first0 : ByteArray) (a : Option Addr) (len cap : Nat) (aw : Option Addr) (lenw capw : Nat) (w : World) (hin : StrsIn w a len) (hinw : IntsIn w aw lenw) :
    Calls Try.prog 4 #[.string first0, .slice a len cap, .slice aw lenw capw] w fun e w' => e = .returned (.bool true) ∧ Below w.heap.size w w' := by
  have HIN := Lib.hid hin
  have HINW := Lib.hid hinw
  clear hin hinw
  go_enter Try.func4, Try.ntmps4
  go_wp2_with fail
  refine (awake_any _).mono ?_
  rintro e w1 ⟨rfl, ht⟩
  have HT1 := Lib.hid ht
  clear ht
  go_wp2_with fail
  refine (cut_any first0 _).mono ?_
  rintro e w1' ⟨rfl, ht⟩
  have HT1' := Lib.hid (HT1.out.trans ht)
  clear ht
  generalize cut8 first0 = first
  go_wp2_with fail
  refine (mem_new 3 (by omega) w _ HT1'.out).mono ?_
  rintro e w2 ⟨g, rfl, hm⟩
  have HM2 := Lib.hid hm
  clear hm
  go_wp2_with fail
  refine (mem_write _ HM2.out (by decide) 0 (by decide) 1 ⟨#[]⟩ rfl ⟨#[]⟩ first).mono ?_
  rintro e w3 ⟨rfl, hm⟩
  have HM3 := Lib.hid hm
  clear hm HM2
  go_wp2_with fail
  go_loopg [8, 9, 10] 20 (fun k v8 v9 v10 wr => ∃ (i : Nat) (done : Int) (want : ByteArray) (log : List Dn), v8 = .int .i64 done ∧ v9 = .string want ∧ v10 = .int .i64 (i : Int) ∧ Hid (k + i = 20 ∧ i ≤ len ∧ log.length ≤ i + 1 ∧ OneAt first want done log) ∧ Mem w g [⟨#[]⟩, want, ⟨#[]⟩] log wr)
  case atStart => exact ⟨0, 0, first, _, rfl, rfl, rfl, ⟨rfl, Nat.zero_le _, by simp, .inl ⟨rfl, rfl, rfl⟩⟩, HM3.out⟩
  case round =>
    obtain ⟨i, done, want, log, rfl, rfl, rfl, hi, hm⟩ := hrel
    have HM3 := Lib.hid hm
    clear hm
    have hll : log.length ≤ 1000 := by have := hi.out.1; have := hi.out.2.2.1; omega
    have hdn : done = 0 ∨ done = 1 := by rcases hi.out.2.2.2 with h | h <;> simp [h.1]
    have hz : (swFold 1 log).1 = done := by rcases hi.out.2.2.2 with h | h <;> simp [h.1, h.2.2]
    have HZ := Lib.hid hz
    have HL := Lib.hid hll
    clear hz hll
    by_cases hlt : i < len ∧ i < 20
    · have b1 : decide ((i : Int) < (len : Int)) = true := by simp; omega
      have b1n : decide (i < len) = true := by simp; omega
      have b2 : decide ((i : Int) < (20 : Int)) = true := by simp; omega
      have b2n : decide (i < 20) = true := by simp; omega
      have hi1 := hlt.1
      have hi2 := hlt.2
      have hw : wrap64 ((i : Int) + 1) = (i : Int) + 1 := IntWalk.wrap64_in _ ⟨by omega, by omega⟩
      obtain ⟨ad, S, rfl, hS, c0⟩ := (HIN.out.later HM3.out.turn.nopeBelow).2 i hi1
      clear hlt
      go_wp2_with fail
      refine (cut_any S _).mono ?_
      rintro e w4 ⟨rfl, ht⟩
      have HM4 := Lib.hid (HM3.out.nope ht)
      clear ht c0 HM3
      generalize cut8 S = T at *
      by_cases hTf : T = first
      · subst hTf
        have q1 : (T.toList == T.toList) = true := by simp
        go_wp2_with fail
        go_roundg (19 - i)
        case measure => have := hi.out.1; omega
        case rel => exact ⟨i + 1, done, want, log, rfl, rfl, by go_num, ⟨by omega, by omega, by have := hi.out.2.2.1; omega, hi.out.2.2.2⟩, HM4.out⟩
      · have q1 : (T.toList == first.toList) = false := list_ne hTf
        by_cases hlw : i < lenw
        · have b3 : decide ((i : Int) < (lenw : Int)) = true := by simp; omega
          have b3n : decide (i < lenw) = true := by simp; omega
          obtain ⟨adw, p, rfl, hp, c0⟩ := (HINW.out.later HM4.out.turn.nopeBelow).2 i hlw
          go_wp2_with fail
          clear b1 b1n b2 b2n
          rcases hi.out.2.2.2 with ⟨rfl, rfl, hsw⟩ | ⟨rfl, hne, hsw⟩
          · refine (mem_swap _ HM4.out HL.out _ hp 1 want rfl want T rfl).mono ?_
            rintro e w5 ⟨rfl, hm⟩
            have HM5 := Lib.hid hm
            have HSW := Lib.hid hsw
            clear hm HM4 hsw
            have q2 : (want.toList != want.toList) = false := by simp
            go_wp2_with fail
            go_roundg (19 - i)
            case measure => have := hi.out.1; omega
            case rel => exact ⟨i + 1, 1, T, _, rfl, rfl, by go_num, ⟨by omega, by omega, by have := hi.out.2.2.1; simp; omega, .inr ⟨rfl, hTf, by rw [swFold_app, HSW.out]; simp [swStep]⟩⟩, HM5.out⟩
          · refine (mem_miss _ HM4.out HL.out _ hp 1 want rfl first T hne).mono ?_
            rintro e w5 ⟨rfl, hm⟩
            have HM5 := Lib.hid hm
            have HSW := Lib.hid hsw
            clear hm HM4 hsw
            have q2 : (want.toList != want.toList) = false := by simp
            go_wp2_with fail
            go_roundg (19 - i)
            case measure => have := hi.out.1; omega
            case rel => exact ⟨i + 1, 1, want, _, rfl, rfl, by go_num, ⟨by omega, by omega, by have := hi.out.2.2.1; simp; omega, .inr ⟨rfl, hne, by rw [swFold_app, HSW.out]; simp [swStep, hne]⟩⟩, HM5.out⟩
        · have b3 : decide ((i : Int) < (lenw : Int)) = false := by simp; omega
          have b3n : decide (i < lenw) = false := by simp; omega
          have hp : (Lit.int .i64 0).wf = true := by decide
          go_wp2_with fail
          clear b1 b1n b2 b2n
          rcases hi.out.2.2.2 with ⟨rfl, rfl, hsw⟩ | ⟨rfl, hne, hsw⟩
          · refine (mem_swap _ HM4.out HL.out _ hp 1 want rfl want T rfl).mono ?_
            rintro e w5 ⟨rfl, hm⟩
            have HM5 := Lib.hid hm
            have HSW := Lib.hid hsw
            clear hm HM4 hsw
            have q2 : (want.toList != want.toList) = false := by simp
            go_wp2_with fail
            go_roundg (19 - i)
            case measure => have := hi.out.1; omega
            case rel => exact ⟨i + 1, 1, T, _, rfl, rfl, by go_num, ⟨by omega, by omega, by have := hi.out.2.2.1; simp; omega, .inr ⟨rfl, hTf, by rw [swFold_app, HSW.out]; simp [swStep]⟩⟩, HM5.out⟩
          · refine (mem_miss _ HM4.out HL.out _ hp 1 want rfl first T hne).mono ?_
            rintro e w5 ⟨rfl, hm⟩
            have HM5 := Lib.hid hm
            have HSW := Lib.hid hsw
            clear hm HM4 hsw
            have q2 : (want.toList != want.toList) = false := by simp
            go_wp2_with fail
            go_roundg (19 - i)
            case measure => have := hi.out.1; omega
            case rel => exact ⟨i + 1, 1, want, _, rfl, rfl, by go_num, ⟨by omega, by omega, by have := hi.out.2.2.1; simp; omega, .inr ⟨rfl, hne, by rw [swFold_app, HSW.out]; simp [swStep, hne]⟩⟩, HM5.out⟩
    · by_cases h1 : i < len
      · have h30 : i = 20 := by have := hi.out.1; omega
        subst h30
        have b1 : decide ((20 : Int) < (len : Int)) = true := by simp; omega
        have b1n : decide (20 < len) = true := by simp; omega
        clear hlt
        go_wp2_with fail
        refine (mem_look _ HM3.out 1 want rfl).mono ?_
        rintro e w4 ⟨rfl, hm⟩
        have HM4 := Lib.hid hm
        clear hm HM3
        have q1 : (want.toList == want.toList) = true := by simp
        go_wp2_with fail
        refine (mem_swaps _ HM4.out HL.out 1).mono ?_
        rintro e w5 ⟨rfl, hm⟩
        have HM5 := Lib.hid hm
        clear hm HM4
        rw [HZ.out]
        have q2 : (done == done) = true := by simp
        go_wp2_with fail
        refine (mem_look _ HM5.out 0 ⟨#[]⟩ rfl).mono ?_
        rintro e w6 ⟨rfl, hm⟩
        have HM6 := Lib.hid hm
        clear hm HM5
        go_wp2_with fail
        refine (mem_look _ HM6.out 2 ⟨#[]⟩ rfl).mono ?_
        rintro e w7 ⟨rfl, hm⟩
        have HM7 := Lib.hid hm
        clear hm HM6
        go_wp2_with fail
        go_ret
        exact ⟨rfl, HM7.out.turn.nopeBelow⟩
      · have hil : i = len := by have := hi.out.2.1; omega
        subst hil
        have b1 : decide ((i : Int) < (i : Int)) = false := by simp
        have b1n : decide (i < i) = false := by simp
        clear hlt h1
        go_wp2_with fail
        refine (mem_look _ HM3.out 1 want rfl).mono ?_
        rintro e w4 ⟨rfl, hm⟩
        have HM4 := Lib.hid hm
        clear hm HM3
        have q1 : (want.toList == want.toList) = true := by simp
        go_wp2_with fail
        refine (mem_swaps _ HM4.out HL.out 1).mono ?_
        rintro e w5 ⟨rfl, hm⟩
        have HM5 := Lib.hid hm
        clear hm HM4
        rw [HZ.out]
        have q2 : (done == done) = true := by simp
        go_wp2_with fail
        refine (mem_look _ HM5.out 0 ⟨#[]⟩ rfl).mono ?_
        rintro e w6 ⟨rfl, hm⟩
        have HM6 := Lib.hid hm
        clear hm HM5
        go_wp2_with fail
        refine (mem_look _ HM6.out 2 ⟨#[]⟩ rfl).mono ?_
        rintro e w7 ⟨rfl, hm⟩
        have HM7 := Lib.hid hm
        clear hm HM6
        go_wp2_with fail
        go_ret
        exact ⟨rfl, HM7.out.turn.nopeBelow⟩
end Go.Proofs.Ytpcfgigmchndjaa
