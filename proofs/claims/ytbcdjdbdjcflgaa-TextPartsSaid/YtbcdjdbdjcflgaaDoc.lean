import Derived.Test.YtbcdjdbdjcflgaaLib
namespace Go.Proofs.Ytbcdjdbdjcflgaa
open Go.RowKit
def chk (k at_ : Int) (S : ByteArray) (n : Int) : Int :=
  if ¬ (k = 1 ∨ k = 2) then 5 else if at_ < 0 ∨ 200 < at_ then 4
  else if k = 1 ∧ (S.size = 0 ∨ 40 < S.size ∨ n ≠ 0) then 4
  else if k = 2 ∧ (n < 1 ∨ 40 < n ∨ S.size ≠ 0) then 4 else 0
theorem toList_nil (S : ByteArray) : (S.toList = ([] : List UInt8)) ↔ (S.size = 0) := by
  rw [← List.length_eq_zero_iff, ByteArray.toList_eq]
  simp

set_option maxHeartbeats 4000000 in
theorem check_any (k at_ : Int) (S : ByteArray) (n : Int) (w : World) :
    Calls Try.prog 13 #[.agg #[.int .i64 k, .int .i64 at_, .string S, .int .i64 n]] w fun e w' => e = .returned (.int .i64 (chk k at_ S n)) ∧ Turn Nope w w' := by
  by_cases c0 : k = 1
  · subst c0
    by_cases c1 : at_ < 0
    · have c1b : decide (at_ < 0) = true := decide_eq_true c1
      have HF : Hid (chk 1 at_ S n = 4) := by
        unfold chk; (repeat (first | rw [if_pos (by omega)] | rw [if_neg (by omega)] | rfl))
      go_enter Try.func13, Try.ntmps13
      go_wp2
      go_ret
      exact ⟨by rw [HF.out]; rfl, by repeat (first | exact Turn.refl _ _ | apply Turn.alloc | apply Turn.drewN | apply Turn.drew)⟩
    · have c1b : decide (at_ < 0) = false := decide_eq_false c1
      by_cases c2 : 200 < at_
      · have c2b : decide (200 < at_) = true := decide_eq_true c2
        have HF : Hid (chk 1 at_ S n = 4) := by
          unfold chk; (repeat (first | rw [if_pos (by omega)] | rw [if_neg (by omega)] | rfl))
        go_enter Try.func13, Try.ntmps13
        go_wp2
        go_ret
        exact ⟨by rw [HF.out]; rfl, by repeat (first | exact Turn.refl _ _ | apply Turn.alloc | apply Turn.drewN | apply Turn.drew)⟩
      · have c2b : decide (200 < at_) = false := decide_eq_false c2
        by_cases c3 : S.size = 0
        · have c3e : S.toList = ([] : List UInt8) := (toList_nil S).mpr c3
          have c3b : (S.toList == ([] : List UInt8)) = true := beq_iff_eq.2 c3e
          have c3n : (S.toList != ([] : List UInt8)) = false := bne_eq_false_iff_eq.2 c3e
          clear c3e
          have HF : Hid (chk 1 at_ S n = 4) := by
            unfold chk; (repeat (first | rw [if_pos (by omega)] | rw [if_neg (by omega)] | rfl))
          go_enter Try.func13, Try.ntmps13
          go_wp2
          go_ret
          exact ⟨by rw [HF.out]; rfl, by repeat (first | exact Turn.refl _ _ | apply Turn.alloc | apply Turn.drewN | apply Turn.drew)⟩
        · have c3e : ¬ S.toList = ([] : List UInt8) := fun e => c3 ((toList_nil S).mp e)
          have c3b : (S.toList == ([] : List UInt8)) = false := beq_eq_false_iff_ne.2 c3e
          have c3n : (S.toList != ([] : List UInt8)) = true := bne_iff_ne.2 c3e
          clear c3e
          by_cases c4 : (40:Int) < (S.size:Int)
          · have c4b : decide ((40:Int) < (S.size:Int)) = true := decide_eq_true c4
            have HF : Hid (chk 1 at_ S n = 4) := by
              unfold chk; (repeat (first | rw [if_pos (by omega)] | rw [if_neg (by omega)] | rfl))
            go_enter Try.func13, Try.ntmps13
            go_wp2
            go_ret
            exact ⟨by rw [HF.out]; rfl, by repeat (first | exact Turn.refl _ _ | apply Turn.alloc | apply Turn.drewN | apply Turn.drew)⟩
          · have c4b : decide ((40:Int) < (S.size:Int)) = false := decide_eq_false c4
            by_cases c5 : n = 0
            · subst c5
              have HF : Hid (chk 1 at_ S 0 = 0) := by
                unfold chk; (repeat (first | rw [if_pos (by omega)] | rw [if_neg (by omega)] | rfl))
              go_enter Try.func13, Try.ntmps13
              go_wp2
              go_ret
              exact ⟨by rw [HF.out]; rfl, by repeat (first | exact Turn.refl _ _ | apply Turn.alloc | apply Turn.drewN | apply Turn.drew)⟩
            · have c5b : (n == 0) = false := beq_eq_false_iff_ne.2 c5
              have c5n : (n != 0) = true := bne_iff_ne.2 c5
              have HF : Hid (chk 1 at_ S n = 4) := by
                unfold chk; (repeat (first | rw [if_pos (by omega)] | rw [if_neg (by omega)] | rfl))
              go_enter Try.func13, Try.ntmps13
              go_wp2
              go_ret
              exact ⟨by rw [HF.out]; rfl, by repeat (first | exact Turn.refl _ _ | apply Turn.alloc | apply Turn.drewN | apply Turn.drew)⟩
  · have c0b : (k == 1) = false := beq_eq_false_iff_ne.2 c0
    have c0n : (k != 1) = true := bne_iff_ne.2 c0
    by_cases c6 : k = 2
    · subst c6
      by_cases c7 : at_ < 0
      · have c7b : decide (at_ < 0) = true := decide_eq_true c7
        have HF : Hid (chk 2 at_ S n = 4) := by
          unfold chk; (repeat (first | rw [if_pos (by omega)] | rw [if_neg (by omega)] | rfl))
        go_enter Try.func13, Try.ntmps13
        go_wp2
        go_ret
        exact ⟨by rw [HF.out]; rfl, by repeat (first | exact Turn.refl _ _ | apply Turn.alloc | apply Turn.drewN | apply Turn.drew)⟩
      · have c7b : decide (at_ < 0) = false := decide_eq_false c7
        by_cases c8 : 200 < at_
        · have c8b : decide (200 < at_) = true := decide_eq_true c8
          have HF : Hid (chk 2 at_ S n = 4) := by
            unfold chk; (repeat (first | rw [if_pos (by omega)] | rw [if_neg (by omega)] | rfl))
          go_enter Try.func13, Try.ntmps13
          go_wp2
          go_ret
          exact ⟨by rw [HF.out]; rfl, by repeat (first | exact Turn.refl _ _ | apply Turn.alloc | apply Turn.drewN | apply Turn.drew)⟩
        · have c8b : decide (200 < at_) = false := decide_eq_false c8
          by_cases c9 : n < 1
          · have c9b : decide (n < 1) = true := decide_eq_true c9
            have HF : Hid (chk 2 at_ S n = 4) := by
              unfold chk; (repeat (first | rw [if_pos (by omega)] | rw [if_neg (by omega)] | rfl))
            go_enter Try.func13, Try.ntmps13
            go_wp2
            go_ret
            exact ⟨by rw [HF.out]; rfl, by repeat (first | exact Turn.refl _ _ | apply Turn.alloc | apply Turn.drewN | apply Turn.drew)⟩
          · have c9b : decide (n < 1) = false := decide_eq_false c9
            by_cases c10 : 40 < n
            · have c10b : decide (40 < n) = true := decide_eq_true c10
              have HF : Hid (chk 2 at_ S n = 4) := by
                unfold chk; (repeat (first | rw [if_pos (by omega)] | rw [if_neg (by omega)] | rfl))
              go_enter Try.func13, Try.ntmps13
              go_wp2
              go_ret
              exact ⟨by rw [HF.out]; rfl, by repeat (first | exact Turn.refl _ _ | apply Turn.alloc | apply Turn.drewN | apply Turn.drew)⟩
            · have c10b : decide (40 < n) = false := decide_eq_false c10
              by_cases c11 : S.size = 0
              · have c11e : S.toList = ([] : List UInt8) := (toList_nil S).mpr c11
                have c11b : (S.toList == ([] : List UInt8)) = true := beq_iff_eq.2 c11e
                have c11n : (S.toList != ([] : List UInt8)) = false := bne_eq_false_iff_eq.2 c11e
                clear c11e
                have HF : Hid (chk 2 at_ S n = 0) := by
                  unfold chk; (repeat (first | rw [if_pos (by omega)] | rw [if_neg (by omega)] | rfl))
                go_enter Try.func13, Try.ntmps13
                go_wp2
                go_ret
                exact ⟨by rw [HF.out]; rfl, by repeat (first | exact Turn.refl _ _ | apply Turn.alloc | apply Turn.drewN | apply Turn.drew)⟩
              · have c11e : ¬ S.toList = ([] : List UInt8) := fun e => c11 ((toList_nil S).mp e)
                have c11b : (S.toList == ([] : List UInt8)) = false := beq_eq_false_iff_ne.2 c11e
                have c11n : (S.toList != ([] : List UInt8)) = true := bne_iff_ne.2 c11e
                clear c11e
                have HF : Hid (chk 2 at_ S n = 4) := by
                  unfold chk; (repeat (first | rw [if_pos (by omega)] | rw [if_neg (by omega)] | rfl))
                go_enter Try.func13, Try.ntmps13
                go_wp2
                go_ret
                exact ⟨by rw [HF.out]; rfl, by repeat (first | exact Turn.refl _ _ | apply Turn.alloc | apply Turn.drewN | apply Turn.drew)⟩
    · have c6b : (k == 2) = false := beq_eq_false_iff_ne.2 c6
      have c6n : (k != 2) = true := bne_iff_ne.2 c6
      have HF : Hid (chk k at_ S n = 5) := by
        unfold chk; (repeat (first | rw [if_pos (by omega)] | rw [if_neg (by omega)] | rfl))
      go_enter Try.func13, Try.ntmps13
      go_wp2
      go_ret
      exact ⟨by rw [HF.out]; rfl, by repeat (first | exact Turn.refl _ _ | apply Turn.alloc | apply Turn.drewN | apply Turn.drew)⟩


/-- A document behind an op: its bytes, what went, the error's number. -/
def dDo (s : ByteArray) (k at_ : Int) (S : ByteArray) (n : Int) : ByteArray × ByteArray × Int :=
  if chk k at_ S n ≠ 0 then (s, ⟨#[]⟩, chk k at_ S n)
  else if k = 1 then
    if (s.size : Int) < at_ then (s, ⟨#[]⟩, 6) else if 200 < (s.size : Int) + S.size then (s, ⟨#[]⟩, 7)
    else (s.extract 0 at_.toNat ++ S ++ s.extract at_.toNat s.size, ⟨#[]⟩, 0)
  else if (s.size : Int) < at_ + n then (s, ⟨#[]⟩, 6)
  else (s.extract 0 at_.toNat ++ s.extract (at_ + n).toNat s.size, s.extract at_.toNat (at_ + n).toNat, 0)
theorem chk_ins {at_ : Int} {S : ByteArray} {n : Int} (h : chk 1 at_ S n = 0) : 0 ≤ at_ ∧ at_ ≤ 200 ∧ 1 ≤ S.size ∧ S.size ≤ 40 ∧ n = 0 := by
  unfold chk at h
  (repeat' split at h) <;> omega
theorem chk_kind {k at_ : Int} {S : ByteArray} {n : Int} (h : chk k at_ S n = 0) : k = 1 ∨ k = 2 := by
  unfold chk at h
  (repeat' split at h) <;> omega
theorem chk_del {at_ : Int} {S : ByteArray} {n : Int} (h : chk 2 at_ S n = 0) : 0 ≤ at_ ∧ at_ ≤ 200 ∧ S.size = 0 ∧ 1 ≤ n ∧ n ≤ 40 := by
  unfold chk at h
  (repeat' split at h) <;> omega
def IsDoc (w : World) (g : Nat) (s : ByteArray) : Prop := w.heap[g]? = some (.cells #[.string s] 49 (0, 0))

set_option maxHeartbeats 4000000 in
theorem do_any (g : Nat) (s : ByteArray) (k at_ : Int) (S : ByteArray) (n : Int) (w : World) (hc : IsDoc w g s) (hs : s.size ≤ 200) :
    Calls Try.prog 10 #[.pointer (some ⟨g, 0, none⟩), .agg #[.int .i64 k, .int .i64 at_, .string S, .int .i64 n]] w fun e w' =>
      e = .returned (.tuple #[.string (dDo s k at_ S n).2.1, .int .i64 (dDo s k at_ S n).2.2]) ∧ IsDoc w' g (dDo s k at_ S n).1 ∧ Turn (At g) w w' := by
  have hlt := blk_lt hc
  have hne : w.heap.size ≠ g := by omega
  have hne' : g ≠ w.heap.size := by omega
  have HC := Lib.hid hc
  clear hc
  by_cases c0 : chk k at_ S n ≠ 0
  · have hb1 : (chk k at_ S n != 0) = true := bne_iff_ne.2 c0
    have HF : Hid (dDo s k at_ S n = (s, ⟨#[]⟩, chk k at_ S n)) := by show _ = _; unfold dDo; rw [if_pos c0]
    have HK : Hid (chk k at_ S n = chk k at_ S n) := rfl
    clear c0
    go_enter Try.func10, Try.ntmps10
    go_wp2_with (first | (go_at_call 13; refine (check_any _ _ _ _ _).mono ?_; rintro e w1 ⟨rfl, ht⟩; have HT := Lib.hid ht; clear ht; have B2 := Lib.hid (HT.out.blk (blk_alloc HC.out _) id)))
    go_ret2
    exact ⟨by rw [HF.out]; rfl, by rw [HF.out]; exact B2.out, (by repeat (first | exact Turn.refl _ _ | apply Turn.alloc | apply Turn.drewN | apply Turn.drew | apply Turn.set_at | exact ((Turn.refl _ _).alloc _).then HT.out (fun _ h => h.elim)))⟩
  · have c0e : chk k at_ S n = 0 := Decidable.not_not.1 c0
    clear c0
    rcases chk_kind c0e with rfl | rfl
    · obtain ⟨h0, h1, h2, h3, rfl⟩ := chk_ins c0e
      have HK := Lib.hid c0e
      clear c0e
      by_cases c0 : (s.size:Int) < at_
      · have c0b : decide ((s.size:Int) < at_) = true := decide_eq_true c0
        have HF : Hid (dDo s 1 at_ S 0 = (s, ⟨#[]⟩, 6)) := by show _ = _; unfold dDo; rw [if_neg (by rw [HK.out]; simp)]; rw [if_pos rfl, if_pos (by omega)]
        go_enter Try.func10, Try.ntmps10
        go_wp2_with (first | (go_at_call 13; refine (check_any _ _ _ _ _).mono ?_; rintro e w1 ⟨rfl, ht⟩; (try rw [HK.out]); have HT := Lib.hid ht; clear ht; have B1 := Lib.hid (HT.out.blk (blk_new _ _) id); have B2 := Lib.hid (HT.out.blk (blk_alloc HC.out _) id); have q0 := blk_cell B1.out 0; have q1 := blk_cell B1.out 1; have q2 := blk_cell B1.out 2; have q3 := blk_cell B1.out 3; have d0 := blk_cell B2.out 0; have d0f := blk_frozen B2.out 0; simp at q0 q1 q2 q3 d0) | (go_quiet (fail)) )
        go_ret2
        exact ⟨by rw [HF.out]; rfl, by rw [HF.out]; exact blk_drewN B2.out _, (by repeat (first | exact Turn.refl _ _ | apply Turn.alloc | apply Turn.drewN | apply Turn.drew | apply Turn.set_at | exact ((Turn.refl _ _).alloc _).then HT.out (fun _ h => h.elim)))⟩
      · have c0b : decide ((s.size:Int) < at_) = false := decide_eq_false c0
        by_cases c1 : (200:Int) < (s.size:Int) + (S.size:Int)
        · have c1b : decide ((200:Int) < (s.size:Int) + (S.size:Int)) = true := decide_eq_true c1
          have HF : Hid (dDo s 1 at_ S 0 = (s, ⟨#[]⟩, 7)) := by show _ = _; unfold dDo; rw [if_neg (by rw [HK.out]; simp)]; rw [if_pos rfl, if_neg (by omega), if_pos (by omega)]
          go_enter Try.func10, Try.ntmps10
          go_wp2_with (first | (go_at_call 13; refine (check_any _ _ _ _ _).mono ?_; rintro e w1 ⟨rfl, ht⟩; (try rw [HK.out]); have HT := Lib.hid ht; clear ht; have B1 := Lib.hid (HT.out.blk (blk_new _ _) id); have B2 := Lib.hid (HT.out.blk (blk_alloc HC.out _) id); have q0 := blk_cell B1.out 0; have q1 := blk_cell B1.out 1; have q2 := blk_cell B1.out 2; have q3 := blk_cell B1.out 3; have d0 := blk_cell B2.out 0; have d0f := blk_frozen B2.out 0; simp at q0 q1 q2 q3 d0) | (go_quiet (fail)) )
          go_ret2
          exact ⟨by rw [HF.out]; rfl, by rw [HF.out]; exact blk_drewN (blk_drewN B2.out _) _, (by repeat (first | exact Turn.refl _ _ | apply Turn.alloc | apply Turn.drewN | apply Turn.drew | apply Turn.set_at | exact ((Turn.refl _ _).alloc _).then HT.out (fun _ h => h.elim)))⟩
        · have c1b : decide ((200:Int) < (s.size:Int) + (S.size:Int)) = false := decide_eq_false c1
          have HF : Hid (dDo s 1 at_ S 0 = (s.extract 0 at_.toNat ++ S ++ s.extract at_.toNat s.size, ⟨#[]⟩, 0)) := by show _ = _; unfold dDo; rw [if_neg (by rw [HK.out]; simp)]; rw [if_pos rfl, if_neg (by omega), if_neg (by omega)]
          have hz : s.size + S.size ≤ 200 := by omega
          have hk1 : ∀ W, (Op.stringOp .add (s.extract 0 at_.toNat) S).run Try.prog W = .ok (.string (s.extract 0 at_.toNat ++ S)) W := fun W => run_string_add_sum W _ _ (by simp; omega)
          have hk2 : ∀ W, (Op.stringOp .add (s.extract 0 at_.toNat ++ S) (s.extract at_.toNat s.size)).run Try.prog W = .ok (.string (s.extract 0 at_.toNat ++ S ++ s.extract at_.toNat s.size)) W := fun W => run_string_add_sum W _ _ (by simp; omega)
          go_enter Try.func10, Try.ntmps10
          go_wp2_with (first | (go_at_call 13; refine (check_any _ _ _ _ _).mono ?_; rintro e w1 ⟨rfl, ht⟩; (try rw [HK.out]); have HT := Lib.hid ht; clear ht; have B1 := Lib.hid (HT.out.blk (blk_new _ _) id); have B2 := Lib.hid (HT.out.blk (blk_alloc HC.out _) id); have q0 := blk_cell B1.out 0; have q1 := blk_cell B1.out 1; have q2 := blk_cell B1.out 2; have q3 := blk_cell B1.out 3; have d0 := blk_cell B2.out 0; have d0f := blk_frozen B2.out 0; simp at q0 q1 q2 q3 d0) | (go_quiet (fail))  | (refine still_tail (id := 9) 21 (by kernel_rfl) (by kernel_rfl) ?_; simp only [List.take_succ_cons, List.take_zero, List.drop_succ_cons, List.drop_zero]; (repeat still_step); refine wpStill_nil ?_))
          go_ret2
          exact ⟨by rw [HF.out]; rfl, by rw [HF.out]; exact blk_set (blk_drewN B2.out _) 0 _, (by repeat (first | exact Turn.refl _ _ | apply Turn.alloc | apply Turn.drewN | apply Turn.drew | apply Turn.set_at | exact ((Turn.refl _ _).alloc _).then HT.out (fun _ h => h.elim)))⟩
    · obtain ⟨h0, h1, h2, h3, h4⟩ := chk_del c0e
      have HK := Lib.hid c0e
      have H2 := Lib.hid h2
      clear c0e h2
      by_cases c2 : (s.size:Int) < at_ + n
      · have c2b : decide ((s.size:Int) < at_ + n) = true := decide_eq_true c2
        have HF : Hid (dDo s 2 at_ S n = (s, ⟨#[]⟩, 6)) := by show _ = _; unfold dDo; rw [if_neg (by rw [HK.out]; simp)]; rw [if_neg (by decide), if_pos (by omega)]
        go_enter Try.func10, Try.ntmps10
        go_wp2_with (first | (go_at_call 13; refine (check_any _ _ _ _ _).mono ?_; rintro e w1 ⟨rfl, ht⟩; (try rw [HK.out]); have HT := Lib.hid ht; clear ht; have B1 := Lib.hid (HT.out.blk (blk_new _ _) id); have B2 := Lib.hid (HT.out.blk (blk_alloc HC.out _) id); have q0 := blk_cell B1.out 0; have q1 := blk_cell B1.out 1; have q2 := blk_cell B1.out 2; have q3 := blk_cell B1.out 3; have d0 := blk_cell B2.out 0; have d0f := blk_frozen B2.out 0; simp at q0 q1 q2 q3 d0) | (go_quiet (fail)) )
        go_ret2
        exact ⟨by rw [HF.out]; rfl, by rw [HF.out]; exact blk_drewN B2.out _, (by repeat (first | exact Turn.refl _ _ | apply Turn.alloc | apply Turn.drewN | apply Turn.drew | apply Turn.set_at | exact ((Turn.refl _ _).alloc _).then HT.out (fun _ h => h.elim)))⟩
      · have c2b : decide ((s.size:Int) < at_ + n) = false := decide_eq_false c2
        have HF : Hid (dDo s 2 at_ S n = (s.extract 0 at_.toNat ++ s.extract (at_ + n).toNat s.size, s.extract at_.toNat (at_ + n).toNat, 0)) := by show _ = _; unfold dDo; rw [if_neg (by rw [HK.out]; simp)]; rw [if_neg (by decide), if_neg (by omega)]
        have hw3 : at_ ≤ (s.size : Int) := by omega
        have hw0 : IntKind.i64.wrap (at_ + n) = at_ + n := i64_in' _ (by omega) (by omega)
        have hw1 : 0 ≤ at_ + n := by omega
        have hw2 : at_ ≤ at_ + n := by omega
        have hk1 : ∀ W, (Op.stringOp .add (s.extract 0 at_.toNat) (s.extract (at_ + n).toNat s.size)).run Try.prog W = .ok (.string (s.extract 0 at_.toNat ++ s.extract (at_ + n).toNat s.size)) W := fun W => run_string_add_sum W _ _ (by simp; omega)
        go_enter Try.func10, Try.ntmps10
        go_wp2_with (first | (go_at_call 13; refine (check_any _ _ _ _ _).mono ?_; rintro e w1 ⟨rfl, ht⟩; (try rw [HK.out]); have HT := Lib.hid ht; clear ht; have B1 := Lib.hid (HT.out.blk (blk_new _ _) id); have B2 := Lib.hid (HT.out.blk (blk_alloc HC.out _) id); have q0 := blk_cell B1.out 0; have q1 := blk_cell B1.out 1; have q2 := blk_cell B1.out 2; have q3 := blk_cell B1.out 3; have d0 := blk_cell B2.out 0; have d0f := blk_frozen B2.out 0; simp at q0 q1 q2 q3 d0) | (go_quiet (fail))  | (refine still_tail (id := 14) 21 (by kernel_rfl) (by kernel_rfl) ?_; simp only [List.take_succ_cons, List.take_zero, List.drop_succ_cons, List.drop_zero]; (repeat still_step); refine wpStill_nil ?_))
        go_ret2
        exact ⟨by rw [HF.out]; rfl, by rw [HF.out]; exact blk_set (blk_drewN B2.out _) 0 _, (by repeat (first | exact Turn.refl _ _ | apply Turn.alloc | apply Turn.drewN | apply Turn.drew | apply Turn.set_at | exact ((Turn.refl _ _).alloc _).then HT.out (fun _ h => h.elim)))⟩
end Go.Proofs.Ytbcdjdbdjcflgaa
