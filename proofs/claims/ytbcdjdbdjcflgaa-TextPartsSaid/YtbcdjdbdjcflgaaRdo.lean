/- The document's answer to an op is the Doc's. -/
import Derived.Test.YtbcdjdbdjcflgaaSave
import Derived.WalkLawsBesides
set_option linter.unusedSimpArgs false
set_option linter.unusedVariables false
namespace Go.Proofs.Ytbcdjdbdjcflgaa
open Go.RowKit Go.Lib PTextPlays Go.Proofs.YtbcdjdbdjcflgaaW.PrintWords Go.Proofs.YtbcdjdbdjcflgaaW.PrintLast Go.Proofs.YtbcdjdbdjcflgaaW.PrintMore
theorem rcheck_f (k at_ : Int) (S : ByteArray) (n : Int) : hindsightref05_Check.f 3 k at_ S n = some (chk k at_ S n) := by
  by_cases a1 : k < 1
  · rw [hindsightref05_Check.f, if_pos a1]; simp only [hindsightref05_Check.j0, if_true]; rw [chk, if_pos (by omega)]
  by_cases a2 : k > 2
  · rw [hindsightref05_Check.f, if_neg a1, decide_eq_true a2]; simp only [hindsightref05_Check.j0, if_true]; rw [chk, if_pos (by omega)]
  rw [hindsightref05_Check.f, if_neg a1, decide_eq_false a2]
  simp only [hindsightref05_Check.j0, Bool.false_eq_true, if_false]
  by_cases b1 : at_ < 0
  · rw [if_pos b1]; simp only [hindsightref05_Check.j1, if_true]; rw [chk, if_neg (by omega), if_pos (by omega)]
  by_cases b2 : at_ > 200
  · rw [if_neg b1, decide_eq_true b2]; simp only [hindsightref05_Check.j1, if_true]; rw [chk, if_neg (by omega), if_pos (by omega)]
  rw [if_neg b1, decide_eq_false b2]
  simp only [hindsightref05_Check.j1, Bool.false_eq_true, if_false]
  have hR : chk k at_ S n = if k = 1 ∧ (S.size = 0 ∨ 40 < S.size ∨ n ≠ 0) then 4 else if k = 2 ∧ (n < 1 ∨ 40 < n ∨ S.size ≠ 0) then 4 else 0 := by rw [chk, if_neg (by omega), if_neg (by omega)]
  rw [hR]
  clear hR
  have hk : k = 1 ∨ k = 2 := by omega
  clear a1 a2 b1 b2
  rcases hk with rfl | rfl
  · rw [if_pos rfl]
    by_cases c : S.size = 0 ∨ 40 < S.size ∨ n ≠ 0
    · rw [if_pos (⟨rfl, c⟩ : (1 : Int) = 1 ∧ _)]
      by_cases d1 : (S.size : Int) < 1
      · rw [if_pos d1]
      rw [if_neg d1]
      by_cases d2 : (S.size : Int) > 40
      · rw [if_pos d2]
      rw [if_neg d2, if_neg (show ¬ n = 0 by omega)]
    · rw [if_neg (show ¬ ((1 : Int) = 1 ∧ _) from fun h => c h.2), if_neg (show ¬ ((S.size : Int) < 1) by omega), if_neg (show ¬ ((S.size : Int) > 40) by omega), if_pos (show n = 0 by omega), if_neg (by decide), if_neg (by omega)]
  · rw [if_neg (by decide), if_pos rfl, if_neg (show ¬ ((2 : Int) = 1 ∧ _) from fun h => absurd h.1 (by decide))]
    by_cases c : n < 1 ∨ 40 < n ∨ S.size ≠ 0
    · rw [if_pos (⟨rfl, c⟩ : (2 : Int) = 2 ∧ _)]
      by_cases d1 : n < 1
      · rw [if_pos d1]
      rw [if_neg d1]
      by_cases d2 : n > 40
      · rw [if_pos d2]
      rw [if_neg d2, if_pos (show (S.size : Int) > 0 by omega)]
    · rw [if_neg (show ¬ ((2 : Int) = 2 ∧ _) from fun h => c h.2), if_neg (show ¬ (n < 1) by omega), if_neg (show ¬ (n > 40) by omega), if_neg (show ¬ ((S.size : Int) > 0) by omega)]
theorem rcheck_any (k at_ : Int) (S : ByteArray) (n : Int) (w : World) : Calls Try.prog 15 #[.agg #[.int .i64 k, .int .i64 at_, .string S, .int .i64 n]] w fun e w' => e = .returned (.int .i64 (chk k at_ S n)) ∧ Below w.heap.size w w' :=
  hindsightref05_Check.calls 3 k at_ S n _ w (rcheck_f k at_ S n)
set_option maxHeartbeats 4000000 in
theorem rdo_any (s : ByteArray) (k at_ : Int) (S : ByteArray) (n : Int) (w : World) (hs : s.size ≤ 200) :
    Calls Try.prog 14 #[.string s, .agg #[.int .i64 k, .int .i64 at_, .string S, .int .i64 n]] w fun e w' =>
      e = .returned (.tuple #[.string (dDo s k at_ S n).1, .string (dDo s k at_ S n).2.1, .int .i64 (dDo s k at_ S n).2.2]) ∧ Below w.heap.size w w' := by
  have B := Lib.hid (blk_new w (.cells #[.int .i64 k, .int .i64 at_, .string S, .int .i64 n] 41))
  have HT := Lib.hid ((Turn.refl Nope w).alloc (.cells #[.int .i64 k, .int .i64 at_, .string S, .int .i64 n] 41))
  by_cases c0 : chk k at_ S n ≠ 0
  · have hb1 : (chk k at_ S n != 0) = true := bne_iff_ne.2 c0
    have HF : Hid (dDo s k at_ S n = (s, ⟨#[]⟩, chk k at_ S n)) := by show _ = _; unfold dDo; rw [if_pos c0]
    have HK : Hid (chk k at_ S n = chk k at_ S n) := rfl
    clear c0
    go_enter Try.func14, Try.ntmps14
    go_wp2_with (first | (go_at_call 15; refine (rcheck_any k at_ S n _).mono ?_; rintro e w1 ⟨rfl, hb⟩; (try rw [HK.out]); have HT := Lib.hid (HT.out.below hb); have B := Lib.hid ((Turn.toNope hb).blk B.out id); clear hb; have q0 := blk_cell B.out 0; have q1 := blk_cell B.out 1; have q2 := blk_cell B.out 2; have q3 := blk_cell B.out 3; simp at q0 q1 q2 q3) | (go_quiet (fail)))
    go_ret3
    exact ⟨by rw [HF.out]; rfl, (by repeat (first | exact HT.out | apply Turn.drewN | apply Turn.drew) : Turn Nope w _).nopeBelow⟩
  · have c0e : chk k at_ S n = 0 := Decidable.not_not.1 c0
    clear c0
    rcases chk_kind c0e with rfl | rfl
    · obtain ⟨h0, h1, h2, h3, rfl⟩ := chk_ins c0e
      have HK := Lib.hid c0e
      clear c0e
      by_cases c0 : (s.size:Int) < at_
      · have c0b : decide ((s.size:Int) < at_) = true := decide_eq_true c0
        have HF : Hid (dDo s 1 at_ S 0 = (s, ⟨#[]⟩, 6)) := by show _ = _; unfold dDo; rw [if_neg (by rw [HK.out]; simp)]; rw [if_pos rfl, if_pos (by omega)]
        go_enter Try.func14, Try.ntmps14
        go_wp2_with (first | (go_at_call 15; refine (rcheck_any 1 at_ S 0 _).mono ?_; rintro e w1 ⟨rfl, hb⟩; (try rw [HK.out]); have HT := Lib.hid (HT.out.below hb); have B := Lib.hid ((Turn.toNope hb).blk B.out id); clear hb; have q0 := blk_cell B.out 0; have q1 := blk_cell B.out 1; have q2 := blk_cell B.out 2; have q3 := blk_cell B.out 3; simp at q0 q1 q2 q3) | (go_quiet (fail)))
        go_ret3
        exact ⟨by rw [HF.out]; rfl, (by repeat (first | exact HT.out | apply Turn.drewN | apply Turn.drew) : Turn Nope w _).nopeBelow⟩
      · have c0b : decide ((s.size:Int) < at_) = false := decide_eq_false c0
        have hwz : wrap64 ((s.size:Int) + (S.size:Int)) = (s.size:Int) + (S.size:Int) := IntWalk.wrap64_in _ ⟨by omega, by omega⟩
        by_cases c1 : (200:Int) < (s.size:Int) + (S.size:Int)
        · have c1b : decide ((200:Int) < (s.size:Int) + (S.size:Int)) = true := decide_eq_true c1
          have HF : Hid (dDo s 1 at_ S 0 = (s, ⟨#[]⟩, 7)) := by show _ = _; unfold dDo; rw [if_neg (by rw [HK.out]; simp)]; rw [if_pos rfl, if_neg (by omega), if_pos (by omega)]
          go_enter Try.func14, Try.ntmps14
          go_wp2_with (first | (go_at_call 15; refine (rcheck_any 1 at_ S 0 _).mono ?_; rintro e w1 ⟨rfl, hb⟩; (try rw [HK.out]); have HT := Lib.hid (HT.out.below hb); have B := Lib.hid ((Turn.toNope hb).blk B.out id); clear hb; have q0 := blk_cell B.out 0; have q1 := blk_cell B.out 1; have q2 := blk_cell B.out 2; have q3 := blk_cell B.out 3; simp at q0 q1 q2 q3) | (go_quiet (fail)))
          go_ret3
          exact ⟨by rw [HF.out]; rfl, (by repeat (first | exact HT.out | apply Turn.drewN | apply Turn.drew) : Turn Nope w _).nopeBelow⟩
        · have c1b : decide ((200:Int) < (s.size:Int) + (S.size:Int)) = false := decide_eq_false c1
          have HF : Hid (dDo s 1 at_ S 0 = (s.extract 0 at_.toNat ++ S ++ s.extract at_.toNat s.size, ⟨#[]⟩, 0)) := by show _ = _; unfold dDo; rw [if_neg (by rw [HK.out]; simp)]; rw [if_pos rfl, if_neg (by omega), if_neg (by omega)]
          have hz : s.size + S.size ≤ 200 := by omega
          have hk1 : ∀ W, (Op.stringOp .add (s.extract 0 at_.toNat) S).run Try.prog W = .ok (.string (s.extract 0 at_.toNat ++ S)) W := fun W => run_string_add_sum W _ _ (by simp; omega)
          have hk2 : ∀ W, (Op.stringOp .add (s.extract 0 at_.toNat ++ S) (s.extract at_.toNat s.size)).run Try.prog W = .ok (.string (s.extract 0 at_.toNat ++ S ++ s.extract at_.toNat s.size)) W := fun W => run_string_add_sum W _ _ (by simp; omega)
          go_enter Try.func14, Try.ntmps14
          go_wp2_with (first | (go_at_call 15; refine (rcheck_any 1 at_ S 0 _).mono ?_; rintro e w1 ⟨rfl, hb⟩; (try rw [HK.out]); have HT := Lib.hid (HT.out.below hb); have B := Lib.hid ((Turn.toNope hb).blk B.out id); clear hb; have q0 := blk_cell B.out 0; have q1 := blk_cell B.out 1; have q2 := blk_cell B.out 2; have q3 := blk_cell B.out 3; simp at q0 q1 q2 q3) | (go_quiet (fail)))
          go_ret3
          exact ⟨by rw [HF.out]; rfl, (by repeat (first | exact HT.out | apply Turn.drewN | apply Turn.drew) : Turn Nope w _).nopeBelow⟩
    · obtain ⟨h0, h1, h2, h3, h4⟩ := chk_del c0e
      have HK := Lib.hid c0e
      have H2 := Lib.hid h2
      clear c0e h2
      have hws : wrap64 ((s.size:Int) - at_) = (s.size:Int) - at_ := IntWalk.wrap64_in _ ⟨by omega, by omega⟩
      have hw0 : IntKind.i64.wrap (at_ + n) = at_ + n := i64_in' _ (by omega) (by omega)
      have hww : wrap64 (at_ + n) = at_ + n := IntWalk.wrap64_in _ ⟨by omega, by omega⟩
      by_cases c2 : (s.size:Int) < at_ + n
      · have HF : Hid (dDo s 2 at_ S n = (s, ⟨#[]⟩, 6)) := by show _ = _; unfold dDo; rw [if_neg (by rw [HK.out]; simp)]; rw [if_neg (by decide), if_pos (by omega)]
        by_cases c3 : (s.size:Int) < at_
        · have c3b : decide ((s.size:Int) < at_) = true := decide_eq_true c3
          go_enter Try.func14, Try.ntmps14
          go_wp2_with (first | (go_at_call 15; refine (rcheck_any 2 at_ S n _).mono ?_; rintro e w1 ⟨rfl, hb⟩; (try rw [HK.out]); have HT := Lib.hid (HT.out.below hb); have B := Lib.hid ((Turn.toNope hb).blk B.out id); clear hb; have q0 := blk_cell B.out 0; have q1 := blk_cell B.out 1; have q2 := blk_cell B.out 2; have q3 := blk_cell B.out 3; simp at q0 q1 q2 q3))
          go_ret3
          exact ⟨by rw [HF.out]; rfl, (by repeat (first | exact HT.out | apply Turn.drewN | apply Turn.drew) : Turn Nope w _).nopeBelow⟩
        · have c3b : decide ((s.size:Int) < at_) = false := decide_eq_false c3
          have c4b : decide ((s.size:Int) - at_ < n) = true := by simp; omega
          go_enter Try.func14, Try.ntmps14
          go_wp2_with (first | (go_at_call 15; refine (rcheck_any 2 at_ S n _).mono ?_; rintro e w1 ⟨rfl, hb⟩; (try rw [HK.out]); have HT := Lib.hid (HT.out.below hb); have B := Lib.hid ((Turn.toNope hb).blk B.out id); clear hb; have q0 := blk_cell B.out 0; have q1 := blk_cell B.out 1; have q2 := blk_cell B.out 2; have q3 := blk_cell B.out 3; simp at q0 q1 q2 q3) | (go_quiet (fail)))
          go_ret3
          exact ⟨by rw [HF.out]; rfl, (by repeat (first | exact HT.out | apply Turn.drewN | apply Turn.drew) : Turn Nope w _).nopeBelow⟩
      · have c3b : decide ((s.size:Int) < at_) = false := by simp; omega
        have c4b : decide ((s.size:Int) - at_ < n) = false := by simp; omega
        have HF : Hid (dDo s 2 at_ S n = (s.extract 0 at_.toNat ++ s.extract (at_ + n).toNat s.size, s.extract at_.toNat (at_ + n).toNat, 0)) := by show _ = _; unfold dDo; rw [if_neg (by rw [HK.out]; simp)]; rw [if_neg (by decide), if_neg (by omega)]
        have hw3 : at_ ≤ (s.size : Int) := by omega
        have hw1 : 0 ≤ at_ + n := by omega
        have hw2 : at_ ≤ at_ + n := by omega
        have hw4 : at_ + n ≤ (s.size : Int) := by omega
        have hk1 : ∀ W, (Op.stringOp .add (s.extract 0 at_.toNat) (s.extract (at_ + n).toNat s.size)).run Try.prog W = .ok (.string (s.extract 0 at_.toNat ++ s.extract (at_ + n).toNat s.size)) W := fun W => run_string_add_sum W _ _ (by simp; omega)
        go_enter Try.func14, Try.ntmps14
        go_wp2_with (first | (go_at_call 15; refine (rcheck_any 2 at_ S n _).mono ?_; rintro e w1 ⟨rfl, hb⟩; (try rw [HK.out]); have HT := Lib.hid (HT.out.below hb); have B := Lib.hid ((Turn.toNope hb).blk B.out id); clear hb; have q0 := blk_cell B.out 0; have q1 := blk_cell B.out 1; have q2 := blk_cell B.out 2; have q3 := blk_cell B.out 3; simp at q0 q1 q2 q3) | (go_quiet (fail)))
        go_ret3
        exact ⟨by rw [HF.out]; rfl, (by repeat (first | exact HT.out | apply Turn.drewN | apply Turn.drew) : Turn Nope w _).nopeBelow⟩
end Go.Proofs.Ytbcdjdbdjcflgaa
