/- awake of the laws of text: it is true. Cut, Few and Inverse. The inverse of an op that was done takes it back. Save and Load of a document. -/
import Derived.Test.YteggenihjhclkaaLib
import Derived.Lib.Strings
import Derived.WideShapes
import Derived.Test.YteggenihjhclkaaTk
set_option maxRecDepth 16000
namespace Go.Proofs.Yteggenihjhclkaa.Tx
open Go.RowKit
def chk (k at_ : Int) (S : ByteArray) (n : Int) : Int :=
  if ¬ (k = 1 ∨ k = 2) then 5 else if at_ < 0 ∨ 200 < at_ then 4
  else if k = 1 ∧ (S.size = 0 ∨ 40 < S.size ∨ n ≠ 0) then 4
  else if k = 2 ∧ (n < 1 ∨ 40 < n ∨ S.size ≠ 0) then 4 else 0
theorem toList_nil (S : ByteArray) : (S.toList = ([] : List UInt8)) ↔ (S.size = 0) := by
  rw [← List.length_eq_zero_iff, ByteArray.toList_eq]
  simp

set_option maxHeartbeats 4000000 in
theorem check_any (k at_ : Int) (S : ByteArray) (n : Int) (w : World) :
    Calls Try.prog 27 #[.agg #[.int .i64 k, .int .i64 at_, .string S, .int .i64 n]] w fun e w' => e = .returned (.int .i64 (chk k at_ S n)) ∧ Turn Nope w w' := by
  by_cases c0 : k = 1
  · subst c0
    by_cases c1 : at_ < 0
    · have c1b : decide (at_ < 0) = true := decide_eq_true c1
      have HF : Hid (chk 1 at_ S n = 4) := by
        unfold chk; (repeat (first | rw [if_pos (by omega)] | rw [if_neg (by omega)] | rfl))
      go_enter Try.func27, Try.ntmps27
      go_wp2
      go_ret
      exact ⟨by rw [HF.out]; rfl, by repeat (first | exact Turn.refl _ _ | apply Turn.alloc | apply Turn.drewN | apply Turn.drew)⟩
    · have c1b : decide (at_ < 0) = false := decide_eq_false c1
      by_cases c2 : 200 < at_
      · have c2b : decide (200 < at_) = true := decide_eq_true c2
        have HF : Hid (chk 1 at_ S n = 4) := by
          unfold chk; (repeat (first | rw [if_pos (by omega)] | rw [if_neg (by omega)] | rfl))
        go_enter Try.func27, Try.ntmps27
        go_wp2
        go_ret
        exact ⟨by rw [HF.out]; rfl, by repeat (first | exact Turn.refl _ _ | apply Turn.alloc | apply Turn.drewN | apply Turn.drew)⟩
      · have c2b : decide (200 < at_) = false := decide_eq_false c2
        by_cases c3 : S.size = 0
        · have c3e : S.toList = ([] : List UInt8) := (toList_nil S).mpr c3
          have c3b : (S.toList == ([] : List UInt8)) = true := beq_iff_eq.2 c3e
          have c3n : (S.toList != ([] : List UInt8)) = false := bne_eq_false_iff_eq.2 c3e
          clear c3e
          have HF : Hid (chk 1 at_ S n = 4) := by
            unfold chk; (repeat (first | rw [if_pos (by omega)] | rw [if_neg (by omega)] | rfl))
          go_enter Try.func27, Try.ntmps27
          go_wp2
          go_ret
          exact ⟨by rw [HF.out]; rfl, by repeat (first | exact Turn.refl _ _ | apply Turn.alloc | apply Turn.drewN | apply Turn.drew)⟩
        · have c3e : ¬ S.toList = ([] : List UInt8) := fun e => c3 ((toList_nil S).mp e)
          have c3b : (S.toList == ([] : List UInt8)) = false := beq_eq_false_iff_ne.2 c3e
          have c3n : (S.toList != ([] : List UInt8)) = true := bne_iff_ne.2 c3e
          clear c3e
          by_cases c4 : (40:Int) < (S.size:Int)
          · have c4b : decide ((40:Int) < (S.size:Int)) = true := decide_eq_true c4
            have HF : Hid (chk 1 at_ S n = 4) := by
              unfold chk; (repeat (first | rw [if_pos (by omega)] | rw [if_neg (by omega)] | rfl))
            go_enter Try.func27, Try.ntmps27
            go_wp2
            go_ret
            exact ⟨by rw [HF.out]; rfl, by repeat (first | exact Turn.refl _ _ | apply Turn.alloc | apply Turn.drewN | apply Turn.drew)⟩
          · have c4b : decide ((40:Int) < (S.size:Int)) = false := decide_eq_false c4
            by_cases c5 : n = 0
            · subst c5
              have HF : Hid (chk 1 at_ S 0 = 0) := by
                unfold chk; (repeat (first | rw [if_pos (by omega)] | rw [if_neg (by omega)] | rfl))
              go_enter Try.func27, Try.ntmps27
              go_wp2
              go_ret
              exact ⟨by rw [HF.out]; rfl, by repeat (first | exact Turn.refl _ _ | apply Turn.alloc | apply Turn.drewN | apply Turn.drew)⟩
            · have c5b : (n == 0) = false := beq_eq_false_iff_ne.2 c5
              have c5n : (n != 0) = true := bne_iff_ne.2 c5
              have HF : Hid (chk 1 at_ S n = 4) := by
                unfold chk; (repeat (first | rw [if_pos (by omega)] | rw [if_neg (by omega)] | rfl))
              go_enter Try.func27, Try.ntmps27
              go_wp2
              go_ret
              exact ⟨by rw [HF.out]; rfl, by repeat (first | exact Turn.refl _ _ | apply Turn.alloc | apply Turn.drewN | apply Turn.drew)⟩
  · have c0b : (k == 1) = false := beq_eq_false_iff_ne.2 c0
    have c0n : (k != 1) = true := bne_iff_ne.2 c0
    by_cases c6 : k = 2
    · subst c6
      by_cases c7 : at_ < 0
      · have c7b : decide (at_ < 0) = true := decide_eq_true c7
        have HF : Hid (chk 2 at_ S n = 4) := by
          unfold chk; (repeat (first | rw [if_pos (by omega)] | rw [if_neg (by omega)] | rfl))
        go_enter Try.func27, Try.ntmps27
        go_wp2
        go_ret
        exact ⟨by rw [HF.out]; rfl, by repeat (first | exact Turn.refl _ _ | apply Turn.alloc | apply Turn.drewN | apply Turn.drew)⟩
      · have c7b : decide (at_ < 0) = false := decide_eq_false c7
        by_cases c8 : 200 < at_
        · have c8b : decide (200 < at_) = true := decide_eq_true c8
          have HF : Hid (chk 2 at_ S n = 4) := by
            unfold chk; (repeat (first | rw [if_pos (by omega)] | rw [if_neg (by omega)] | rfl))
          go_enter Try.func27, Try.ntmps27
          go_wp2
          go_ret
          exact ⟨by rw [HF.out]; rfl, by repeat (first | exact Turn.refl _ _ | apply Turn.alloc | apply Turn.drewN | apply Turn.drew)⟩
        · have c8b : decide (200 < at_) = false := decide_eq_false c8
          by_cases c9 : n < 1
          · have c9b : decide (n < 1) = true := decide_eq_true c9
            have HF : Hid (chk 2 at_ S n = 4) := by
              unfold chk; (repeat (first | rw [if_pos (by omega)] | rw [if_neg (by omega)] | rfl))
            go_enter Try.func27, Try.ntmps27
            go_wp2
            go_ret
            exact ⟨by rw [HF.out]; rfl, by repeat (first | exact Turn.refl _ _ | apply Turn.alloc | apply Turn.drewN | apply Turn.drew)⟩
          · have c9b : decide (n < 1) = false := decide_eq_false c9
            by_cases c10 : 40 < n
            · have c10b : decide (40 < n) = true := decide_eq_true c10
              have HF : Hid (chk 2 at_ S n = 4) := by
                unfold chk; (repeat (first | rw [if_pos (by omega)] | rw [if_neg (by omega)] | rfl))
              go_enter Try.func27, Try.ntmps27
              go_wp2
              go_ret
              exact ⟨by rw [HF.out]; rfl, by repeat (first | exact Turn.refl _ _ | apply Turn.alloc | apply Turn.drewN | apply Turn.drew)⟩
            · have c10b : decide (40 < n) = false := decide_eq_false c10
              by_cases c11 : S.size = 0
              · have c11e : S.toList = ([] : List UInt8) := (toList_nil S).mpr c11
                have c11b : (S.toList == ([] : List UInt8)) = true := beq_iff_eq.2 c11e
                have c11n : (S.toList != ([] : List UInt8)) = false := bne_eq_false_iff_eq.2 c11e
                clear c11e
                have HF : Hid (chk 2 at_ S n = 0) := by
                  unfold chk; (repeat (first | rw [if_pos (by omega)] | rw [if_neg (by omega)] | rfl))
                go_enter Try.func27, Try.ntmps27
                go_wp2
                go_ret
                exact ⟨by rw [HF.out]; rfl, by repeat (first | exact Turn.refl _ _ | apply Turn.alloc | apply Turn.drewN | apply Turn.drew)⟩
              · have c11e : ¬ S.toList = ([] : List UInt8) := fun e => c11 ((toList_nil S).mp e)
                have c11b : (S.toList == ([] : List UInt8)) = false := beq_eq_false_iff_ne.2 c11e
                have c11n : (S.toList != ([] : List UInt8)) = true := bne_iff_ne.2 c11e
                clear c11e
                have HF : Hid (chk 2 at_ S n = 4) := by
                  unfold chk; (repeat (first | rw [if_pos (by omega)] | rw [if_neg (by omega)] | rfl))
                go_enter Try.func27, Try.ntmps27
                go_wp2
                go_ret
                exact ⟨by rw [HF.out]; rfl, by repeat (first | exact Turn.refl _ _ | apply Turn.alloc | apply Turn.drewN | apply Turn.drew)⟩
    · have c6b : (k == 2) = false := beq_eq_false_iff_ne.2 c6
      have c6n : (k != 2) = true := bne_iff_ne.2 c6
      have HF : Hid (chk k at_ S n = 5) := by
        unfold chk; (repeat (first | rw [if_pos (by omega)] | rw [if_neg (by omega)] | rfl))
      go_enter Try.func27, Try.ntmps27
      go_wp2
      go_ret
      exact ⟨by rw [HF.out]; rfl, by repeat (first | exact Turn.refl _ _ | apply Turn.alloc | apply Turn.drewN | apply Turn.drew)⟩


/-- A document behind an op: its bytes, what went, the error's number. -/
def dDo (s : ByteArray) (k at_ : Int) (S : ByteArray) (n : Int) : ByteArray × ByteArray × Int :=
  if chk k at_ S n ≠ 0 then (s, ⟨#[]⟩, chk k at_ S n)
  else if k = 1 then
    if (s.size : Int) < at_ then (s, ⟨#[]⟩, 6) else if 200 < (s.size : Int) + S.size then (s, ⟨#[]⟩, 7)
    else (s.extract 0 at_.toNat ++ S ++ s.extract at_.toNat s.size, ⟨#[]⟩, 0)
  else if (s.size : Int) < at_ + n then (s, ⟨#[]⟩, 6)
  else (s.extract 0 at_.toNat ++ s.extract (at_ + n).toNat s.size, s.extract at_.toNat (at_ + n).toNat, 0)
theorem chk_ins {at_ : Int} {S : ByteArray} {n : Int} (h : chk 1 at_ S n = 0) : 0 ≤ at_ ∧ at_ ≤ 200 ∧ 1 ≤ S.size ∧ S.size ≤ 40 ∧ n = 0 := by
  unfold chk at h
  (repeat' split at h) <;> omega
theorem chk_kind {k at_ : Int} {S : ByteArray} {n : Int} (h : chk k at_ S n = 0) : k = 1 ∨ k = 2 := by
  unfold chk at h
  (repeat' split at h) <;> omega
theorem chk_del {at_ : Int} {S : ByteArray} {n : Int} (h : chk 2 at_ S n = 0) : 0 ≤ at_ ∧ at_ ≤ 200 ∧ S.size = 0 ∧ 1 ≤ n ∧ n ≤ 40 := by
  unfold chk at h
  (repeat' split at h) <;> omega
def IsDoc (w : World) (g : Nat) (s : ByteArray) : Prop := w.heap[g]? = some (.cells #[.string s] 89 (0, 0))

set_option maxHeartbeats 4000000 in
theorem do_any (g : Nat) (s : ByteArray) (k at_ : Int) (S : ByteArray) (n : Int) (w : World) (hc : IsDoc w g s) (hs : s.size ≤ 200) :
    Calls Try.prog 55 #[.pointer (some ⟨g, 0, none⟩), .agg #[.int .i64 k, .int .i64 at_, .string S, .int .i64 n]] w fun e w' =>
      e = .returned (.tuple #[.string (dDo s k at_ S n).2.1, .int .i64 (dDo s k at_ S n).2.2]) ∧ IsDoc w' g (dDo s k at_ S n).1 ∧ Turn (At g) w w' := by
  have hlt := blk_lt hc
  have hne : w.heap.size ≠ g := by omega
  have hne' : g ≠ w.heap.size := by omega
  have HC := Lib.hid hc
  clear hc
  by_cases c0 : chk k at_ S n ≠ 0
  · have hb1 : (chk k at_ S n != 0) = true := bne_iff_ne.2 c0
    have HF : Hid (dDo s k at_ S n = (s, ⟨#[]⟩, chk k at_ S n)) := by show _ = _; unfold dDo; rw [if_pos c0]
    have HK : Hid (chk k at_ S n = chk k at_ S n) := rfl
    clear c0
    go_enter Try.func55, Try.ntmps55
    go_wp2_with (first | (go_at_call 27; refine (check_any _ _ _ _ _).mono ?_; rintro e w1 ⟨rfl, ht⟩; have HT := Lib.hid ht; clear ht; have B2 := Lib.hid (HT.out.blk (blk_alloc HC.out _) id)))
    go_ret2
    exact ⟨by rw [HF.out]; rfl, by rw [HF.out]; exact B2.out, (by repeat (first | exact Turn.refl _ _ | apply Turn.alloc | apply Turn.drewN | apply Turn.drew | apply Turn.set_at | exact ((Turn.refl _ _).alloc _).then HT.out (fun _ h => h.elim)))⟩
  · have c0e : chk k at_ S n = 0 := Decidable.not_not.1 c0
    clear c0
    rcases chk_kind c0e with rfl | rfl
    · obtain ⟨h0, h1, h2, h3, rfl⟩ := chk_ins c0e
      have HK := Lib.hid c0e
      clear c0e
      by_cases c0 : (s.size:Int) < at_
      · have c0b : decide ((s.size:Int) < at_) = true := decide_eq_true c0
        have HF : Hid (dDo s 1 at_ S 0 = (s, ⟨#[]⟩, 6)) := by show _ = _; unfold dDo; rw [if_neg (by rw [HK.out]; simp)]; rw [if_pos rfl, if_pos (by omega)]
        go_enter Try.func55, Try.ntmps55
        go_wp2_with (first | (go_at_call 27; refine (check_any _ _ _ _ _).mono ?_; rintro e w1 ⟨rfl, ht⟩; (try rw [HK.out]); have HT := Lib.hid ht; clear ht; have B1 := Lib.hid (HT.out.blk (blk_new _ _) id); have B2 := Lib.hid (HT.out.blk (blk_alloc HC.out _) id); have q0 := blk_cell B1.out 0; have q1 := blk_cell B1.out 1; have q2 := blk_cell B1.out 2; have q3 := blk_cell B1.out 3; have d0 := blk_cell B2.out 0; have d0f := blk_frozen B2.out 0; simp at q0 q1 q2 q3 d0) | (go_quiet (fail)) )
        go_ret2
        exact ⟨by rw [HF.out]; rfl, by rw [HF.out]; exact blk_drewN B2.out _, (by repeat (first | exact Turn.refl _ _ | apply Turn.alloc | apply Turn.drewN | apply Turn.drew | apply Turn.set_at | exact ((Turn.refl _ _).alloc _).then HT.out (fun _ h => h.elim)))⟩
      · have c0b : decide ((s.size:Int) < at_) = false := decide_eq_false c0
        by_cases c1 : (200:Int) < (s.size:Int) + (S.size:Int)
        · have c1b : decide ((200:Int) < (s.size:Int) + (S.size:Int)) = true := decide_eq_true c1
          have HF : Hid (dDo s 1 at_ S 0 = (s, ⟨#[]⟩, 7)) := by show _ = _; unfold dDo; rw [if_neg (by rw [HK.out]; simp)]; rw [if_pos rfl, if_neg (by omega), if_pos (by omega)]
          go_enter Try.func55, Try.ntmps55
          go_wp2_with (first | (go_at_call 27; refine (check_any _ _ _ _ _).mono ?_; rintro e w1 ⟨rfl, ht⟩; (try rw [HK.out]); have HT := Lib.hid ht; clear ht; have B1 := Lib.hid (HT.out.blk (blk_new _ _) id); have B2 := Lib.hid (HT.out.blk (blk_alloc HC.out _) id); have q0 := blk_cell B1.out 0; have q1 := blk_cell B1.out 1; have q2 := blk_cell B1.out 2; have q3 := blk_cell B1.out 3; have d0 := blk_cell B2.out 0; have d0f := blk_frozen B2.out 0; simp at q0 q1 q2 q3 d0) | (go_quiet (fail)) )
          go_ret2
          exact ⟨by rw [HF.out]; rfl, by rw [HF.out]; exact blk_drewN (blk_drewN B2.out _) _, (by repeat (first | exact Turn.refl _ _ | apply Turn.alloc | apply Turn.drewN | apply Turn.drew | apply Turn.set_at | exact ((Turn.refl _ _).alloc _).then HT.out (fun _ h => h.elim)))⟩
        · have c1b : decide ((200:Int) < (s.size:Int) + (S.size:Int)) = false := decide_eq_false c1
          have HF : Hid (dDo s 1 at_ S 0 = (s.extract 0 at_.toNat ++ S ++ s.extract at_.toNat s.size, ⟨#[]⟩, 0)) := by show _ = _; unfold dDo; rw [if_neg (by rw [HK.out]; simp)]; rw [if_pos rfl, if_neg (by omega), if_neg (by omega)]
          have hz : s.size + S.size ≤ 200 := by omega
          have hk1 : ∀ W, (Op.stringOp .add (s.extract 0 at_.toNat) S).run Try.prog W = .ok (.string (s.extract 0 at_.toNat ++ S)) W := fun W => run_string_add_sum W _ _ (by simp; omega)
          have hk2 : ∀ W, (Op.stringOp .add (s.extract 0 at_.toNat ++ S) (s.extract at_.toNat s.size)).run Try.prog W = .ok (.string (s.extract 0 at_.toNat ++ S ++ s.extract at_.toNat s.size)) W := fun W => run_string_add_sum W _ _ (by simp; omega)
          go_enter Try.func55, Try.ntmps55
          go_wp2_with (first | (go_at_call 27; refine (check_any _ _ _ _ _).mono ?_; rintro e w1 ⟨rfl, ht⟩; (try rw [HK.out]); have HT := Lib.hid ht; clear ht; have B1 := Lib.hid (HT.out.blk (blk_new _ _) id); have B2 := Lib.hid (HT.out.blk (blk_alloc HC.out _) id); have q0 := blk_cell B1.out 0; have q1 := blk_cell B1.out 1; have q2 := blk_cell B1.out 2; have q3 := blk_cell B1.out 3; have d0 := blk_cell B2.out 0; have d0f := blk_frozen B2.out 0; simp at q0 q1 q2 q3 d0) | (go_quiet (fail))  | (refine still_tail (id := 9) 21 (by kernel_rfl) (by kernel_rfl) ?_; simp only [List.take_succ_cons, List.take_zero, List.drop_succ_cons, List.drop_zero]; (repeat still_step); refine wpStill_nil ?_))
          go_ret2
          exact ⟨by rw [HF.out]; rfl, by rw [HF.out]; exact blk_set (blk_drewN B2.out _) 0 _, (by repeat (first | exact Turn.refl _ _ | apply Turn.alloc | apply Turn.drewN | apply Turn.drew | apply Turn.set_at | exact ((Turn.refl _ _).alloc _).then HT.out (fun _ h => h.elim)))⟩
    · obtain ⟨h0, h1, h2, h3, h4⟩ := chk_del c0e
      have HK := Lib.hid c0e
      have H2 := Lib.hid h2
      clear c0e h2
      by_cases c2 : (s.size:Int) < at_ + n
      · have c2b : decide ((s.size:Int) < at_ + n) = true := decide_eq_true c2
        have HF : Hid (dDo s 2 at_ S n = (s, ⟨#[]⟩, 6)) := by show _ = _; unfold dDo; rw [if_neg (by rw [HK.out]; simp)]; rw [if_neg (by decide), if_pos (by omega)]
        go_enter Try.func55, Try.ntmps55
        go_wp2_with (first | (go_at_call 27; refine (check_any _ _ _ _ _).mono ?_; rintro e w1 ⟨rfl, ht⟩; (try rw [HK.out]); have HT := Lib.hid ht; clear ht; have B1 := Lib.hid (HT.out.blk (blk_new _ _) id); have B2 := Lib.hid (HT.out.blk (blk_alloc HC.out _) id); have q0 := blk_cell B1.out 0; have q1 := blk_cell B1.out 1; have q2 := blk_cell B1.out 2; have q3 := blk_cell B1.out 3; have d0 := blk_cell B2.out 0; have d0f := blk_frozen B2.out 0; simp at q0 q1 q2 q3 d0) | (go_quiet (fail)) )
        go_ret2
        exact ⟨by rw [HF.out]; rfl, by rw [HF.out]; exact blk_drewN B2.out _, (by repeat (first | exact Turn.refl _ _ | apply Turn.alloc | apply Turn.drewN | apply Turn.drew | apply Turn.set_at | exact ((Turn.refl _ _).alloc _).then HT.out (fun _ h => h.elim)))⟩
      · have c2b : decide ((s.size:Int) < at_ + n) = false := decide_eq_false c2
        have HF : Hid (dDo s 2 at_ S n = (s.extract 0 at_.toNat ++ s.extract (at_ + n).toNat s.size, s.extract at_.toNat (at_ + n).toNat, 0)) := by show _ = _; unfold dDo; rw [if_neg (by rw [HK.out]; simp)]; rw [if_neg (by decide), if_neg (by omega)]
        have hw3 : at_ ≤ (s.size : Int) := by omega
        have hw0 : IntKind.i64.wrap (at_ + n) = at_ + n := i64_in' _ (by omega) (by omega)
        have hw1 : 0 ≤ at_ + n := by omega
        have hw2 : at_ ≤ at_ + n := by omega
        have hk1 : ∀ W, (Op.stringOp .add (s.extract 0 at_.toNat) (s.extract (at_ + n).toNat s.size)).run Try.prog W = .ok (.string (s.extract 0 at_.toNat ++ s.extract (at_ + n).toNat s.size)) W := fun W => run_string_add_sum W _ _ (by simp; omega)
        go_enter Try.func55, Try.ntmps55
        go_wp2_with (first | (go_at_call 27; refine (check_any _ _ _ _ _).mono ?_; rintro e w1 ⟨rfl, ht⟩; (try rw [HK.out]); have HT := Lib.hid ht; clear ht; have B1 := Lib.hid (HT.out.blk (blk_new _ _) id); have B2 := Lib.hid (HT.out.blk (blk_alloc HC.out _) id); have q0 := blk_cell B1.out 0; have q1 := blk_cell B1.out 1; have q2 := blk_cell B1.out 2; have q3 := blk_cell B1.out 3; have d0 := blk_cell B2.out 0; have d0f := blk_frozen B2.out 0; simp at q0 q1 q2 q3 d0) | (go_quiet (fail))  | (refine still_tail (id := 14) 21 (by kernel_rfl) (by kernel_rfl) ?_; simp only [List.take_succ_cons, List.take_zero, List.drop_succ_cons, List.drop_zero]; (repeat still_step); refine wpStill_nil ?_))
        go_ret2
        exact ⟨by rw [HF.out]; rfl, by rw [HF.out]; exact blk_set (blk_drewN B2.out _) 0 _, (by repeat (first | exact Turn.refl _ _ | apply Turn.alloc | apply Turn.drewN | apply Turn.drew | apply Turn.set_at | exact ((Turn.refl _ _).alloc _).then HT.out (fun _ h => h.elim)))⟩
end Go.Proofs.Yteggenihjhclkaa.Tx
set_option maxRecDepth 16000
namespace Go.Proofs.Yteggenihjhclkaa.Tx
open Go.RowKit
theorem new_any (w : World) : Calls Try.prog 24 #[] w fun e w' => ∃ g, e = .returned (.pointer (some ⟨g, 0, none⟩)) ∧ IsDoc w' g ⟨#[]⟩ ∧ w.heap.size ≤ g ∧ Turn Nope w w' := by
  go_enter Try.func24, Try.ntmps24
  go_wp2
  go_ret
  exact ⟨w.heap.size, rfl, blk_new _ _, Nat.le_refl _, (Turn.refl _ _).alloc _⟩
end Go.Proofs.Yteggenihjhclkaa.Tx
set_option maxRecDepth 16000
namespace Go.Proofs.Yteggenihjhclkaa.Tx
open Go.RowKit
/-- At most n bytes. -/
def cut (s : ByteArray) (n : Nat) : ByteArray := if n < s.size then s.extract 0 n else s
theorem cut_size (s : ByteArray) (n : Nat) : (cut s n).size ≤ n := by
  unfold cut
  split
  · simp; omega
  · omega
theorem cut_any (s : ByteArray) (n : Nat) (w : World) : Calls Try.prog 33 #[.string s, .int .i64 (n : Int)] w fun e w' => e = .returned (.string (cut s n)) ∧ w = w' := by
  by_cases h : n < s.size
  · have HF : Hid (cut s n = s.extract 0 n) := by show _ = _; unfold cut; rw [if_pos h]
    have h1 : decide ((n : Int) < (s.size : Int)) = true := by simp; omega
    go_enter Try.func33, Try.ntmps33
    go_wp2
    go_ret
    exact ⟨by rw [HF.out]; rfl, rfl⟩
  · have HF : Hid (cut s n = s) := by show _ = _; unfold cut; rw [if_neg h]
    have h1 : decide ((n : Int) < (s.size : Int)) = false := by simp; omega
    go_enter Try.func33, Try.ntmps33
    go_wp2
    go_ret
    exact ⟨by rw [HF.out]; rfl, rfl⟩
theorem few_any (k at_ : Int) (S : ByteArray) (n : Int) (w : World) :
    Calls Try.prog 16 #[.agg #[.int .i64 k, .int .i64 at_, .string S, .int .i64 n]] w fun e w' => e = .returned (.agg #[.int .i64 k, .int .i64 at_, .string (cut S 45), .int .i64 n]) ∧ Turn Nope w w' := by
  go_enter Try.func16, Try.ntmps16
  go_wp2_with (first | (go_at_call 33; refine (cut_any _ 45 _).mono ?_; rintro e w1 ⟨rfl, rfl⟩))
  exact bodyPost_ret (v := .agg #[.int .i64 k, .int .i64 at_, .string (cut S 45), .int .i64 n]) (by simp [results, Try.results16, go_sem]) rfl ⟨rfl, ((Turn.refl _ _).alloc _).alloc _⟩
theorem inv_ins (at_ : Int) (S gone : ByteArray) (n : Int) (w : World) :
    Calls Try.prog 30 #[.agg #[.int .i64 1, .int .i64 at_, .string S, .int .i64 n], .string gone] w fun e w' => e = .returned (.agg #[.int .i64 2, .int .i64 at_, .string ⟨#[]⟩, .int .i64 S.size]) ∧ Turn Nope w w' := by
  go_enter Try.func30, Try.ntmps30
  go_wp2
  exact bodyPost_ret (v := .agg #[.int .i64 2, .int .i64 at_, .string ⟨#[]⟩, .int .i64 S.size]) (by simp [results, Try.results30, go_sem]) rfl ⟨rfl, ((Turn.refl _ _).alloc _).alloc _⟩
theorem inv_del (at_ : Int) (S gone : ByteArray) (n : Int) (w : World) :
    Calls Try.prog 30 #[.agg #[.int .i64 2, .int .i64 at_, .string S, .int .i64 n], .string gone] w fun e w' => e = .returned (.agg #[.int .i64 1, .int .i64 at_, .string gone, .int .i64 0]) ∧ Turn Nope w w' := by
  go_enter Try.func30, Try.ntmps30
  go_wp2
  exact bodyPost_ret (v := .agg #[.int .i64 1, .int .i64 at_, .string gone, .int .i64 0]) (by simp [results, Try.results30, go_sem]) rfl ⟨rfl, ((Turn.refl _ _).alloc _).alloc _⟩
end Go.Proofs.Yteggenihjhclkaa.Tx
set_option maxRecDepth 16000
namespace Go.Proofs.Yteggenihjhclkaa.Tx
open Go.RowKit
theorem ba_ext {a b : ByteArray} (h : a.data.toList = b.data.toList) : a = b := Go.WideShapes.bytes_inj h
theorem ex_list (a : ByteArray) (i j : Nat) : (a.extract i j).data.toList = (a.data.toList.drop i).take (j - i) := Lib.extract_data a i j
theorem len_list (a : ByteArray) : a.data.toList.length = a.size := by rw [Array.length_toList]; rfl
theorem ap_list (a b : ByteArray) : (a ++ b).data.toList = a.data.toList ++ b.data.toList := by simp
theorem l_ins {α : Type} (l m : List α) (a : Nat) (h : a ≤ l.length) : (l.take a ++ m ++ l.drop a).take a = l.take a ∧ (l.take a ++ m ++ l.drop a).drop (a + m.length) = l.drop a := by
  have e : (l.take a).length = a := by simp; omega
  constructor
  · rw [List.append_assoc, List.take_left' e]
  · have e2 : (l.take a ++ m).length = a + m.length := by rw [List.length_append, e]
    rw [List.drop_left' e2]
theorem ins_back (s S : ByteArray) (a : Nat) (h : a ≤ s.size) : (s.extract 0 a ++ S ++ s.extract a s.size).extract 0 a ++ (s.extract 0 a ++ S ++ s.extract a s.size).extract (a + S.size) (s.extract 0 a ++ S ++ s.extract a s.size).size = s := by
  obtain ⟨h1, h2⟩ := l_ins s.data.toList S.data.toList a (by rw [len_list]; exact h)
  have hd : (s.data.toList.drop a).take (s.size - a) = s.data.toList.drop a := List.take_of_length_le (by simp)
  apply ba_ext
  rw [ap_list, ex_list, ex_list]
  have hL : (s.extract 0 a ++ S ++ s.extract a s.size).data.toList = s.data.toList.take a ++ S.data.toList ++ s.data.toList.drop a := by
    rw [ap_list, ap_list, ex_list, ex_list, hd]; simp
  rw [hL, List.drop_zero, Nat.sub_zero, h1, ← len_list S, h2, List.take_of_length_le (l := s.data.toList.drop a), List.take_append_drop]
  rw [← len_list, hL]
  simp
  omega
theorem del_back (s : ByteArray) (a b : Nat) (h : a ≤ b) (hb : b ≤ s.size) : (s.extract 0 a ++ s.extract b s.size).extract 0 a ++ s.extract a b ++ (s.extract 0 a ++ s.extract b s.size).extract a (s.extract 0 a ++ s.extract b s.size).size = s := by
  have hd : (s.data.toList.drop b).take (s.size - b) = s.data.toList.drop b := List.take_of_length_le (by simp)
  have hL : (s.extract 0 a ++ s.extract b s.size).data.toList = s.data.toList.take a ++ s.data.toList.drop b := by
    rw [ap_list, ex_list, ex_list, hd]; simp
  have e : (s.data.toList.take a).length = a := by rw [List.length_take, len_list]; omega
  apply ba_ext
  rw [ap_list, ap_list, ex_list, ex_list, ex_list, hL, List.drop_zero, Nat.sub_zero, List.take_left' e, List.drop_left' e, List.take_of_length_le (l := s.data.toList.drop b)]
  · have : (s.data.toList.drop a).take (b - a) ++ s.data.toList.drop b = s.data.toList.drop a := by
      have e2 : s.data.toList.drop b = (s.data.toList.drop a).drop (b - a) := by rw [List.drop_drop]; congr 1; omega
      rw [e2, List.take_append_drop]
    rw [List.append_assoc, this, List.take_append_drop]
  · rw [← len_list, hL]
    simp
    omega
/-- An op. -/
structure Op4 where
  k : Int
  p : Int
  S : ByteArray
  n : Int
def inv (o : Op4) (gone : ByteArray) : Op4 := if o.k = 1 then ⟨2, o.p, ⟨#[]⟩, o.S.size⟩ else ⟨1, o.p, gone, 0⟩
def dOp (s : ByteArray) (o : Op4) : ByteArray × ByteArray × Int := dDo s o.k o.p o.S o.n
def cOp (o : Op4) : Int := chk o.k o.p o.S o.n
/-- BACK. -/
theorem dOp_back (s : ByteArray) (o : Op4) (hs : s.size ≤ 200) (h : (dOp s o).2.2 = 0) :
    (dOp (dOp s o).1 (inv o (dOp s o).2.1)).1 = s ∧ (dOp (dOp s o).1 (inv o (dOp s o).2.1)).2.2 = 0 ∧ cOp (inv o (dOp s o).2.1) = 0 ∧ (dOp s o).1.size ≤ 200 := by
  obtain ⟨k, a, S, n⟩ := o
  have hc : chk k a S n = 0 := by
    by_cases hc : chk k a S n = 0
    · exact hc
    · exfalso
      simp only [dOp] at h
      unfold dDo at h
      rw [if_pos hc] at h
      exact hc h
  rcases chk_kind hc with rfl | rfl
  · obtain ⟨h0, h1, h2, h3, rfl⟩ := chk_ins hc
    have hd : dDo s 1 a S 0 = if (s.size : Int) < a then (s, ⟨#[]⟩, 6) else if 200 < (s.size : Int) + S.size then (s, ⟨#[]⟩, 7) else (s.extract 0 a.toNat ++ S ++ s.extract a.toNat s.size, ⟨#[]⟩, 0) := by
      unfold dDo; rw [if_neg (by simp [hc]), if_pos rfl]
    simp only [dOp] at h ⊢
    rw [hd] at h ⊢
    by_cases c1 : (s.size : Int) < a
    · rw [if_pos c1] at h; simp at h
    · rw [if_neg c1] at h ⊢
      by_cases c2 : 200 < (s.size : Int) + S.size
      · rw [if_pos c2] at h; simp at h
      · rw [if_neg c2] at h ⊢
        have hz : (s.extract 0 a.toNat ++ S ++ s.extract a.toNat s.size).size = s.size + S.size := by simp; omega
        have hci : chk 2 a ⟨#[]⟩ (S.size : Int) = 0 := by
          unfold chk
          rw [if_neg (by omega), if_neg (by omega), if_neg (by omega), if_neg]
          rintro ⟨_, hh⟩
          rcases hh with hh | hh | hh
          · omega
          · omega
          · exact hh rfl
        have hi : dDo (s.extract 0 a.toNat ++ S ++ s.extract a.toNat s.size) 2 a ⟨#[]⟩ (S.size : Int) = (s, S, 0) ∨ True := .inr trivial
        simp only [inv, if_true]
        refine ⟨?_, ?_, hci, by rw [hz]; omega⟩
        · unfold dDo
          rw [if_neg (by simp [hci]), if_neg (by decide), if_neg (by rw [hz]; omega)]
          have := ins_back s S a.toNat (by omega)
          rwa [show (a + (S.size : Int)).toNat = a.toNat + S.size from by omega]
        · unfold dDo
          rw [if_neg (by simp [hci]), if_neg (by decide), if_neg (by rw [hz]; omega)]
  · obtain ⟨h0, h1, h2, h3, h4⟩ := chk_del hc
    have hd : dDo s 2 a S n = if (s.size : Int) < a + n then (s, ⟨#[]⟩, 6) else (s.extract 0 a.toNat ++ s.extract (a + n).toNat s.size, s.extract a.toNat (a + n).toNat, 0) := by
      unfold dDo; rw [if_neg (by simp [hc]), if_neg (by decide)]
    simp only [dOp] at h ⊢
    rw [hd] at h ⊢
    by_cases c1 : (s.size : Int) < a + n
    · rw [if_pos c1] at h; simp at h
    · rw [if_neg c1] at h ⊢
      have hz : (s.extract 0 a.toNat ++ s.extract (a + n).toNat s.size).size = s.size - n.toNat := by simp; omega
      have hg : (s.extract a.toNat (a + n).toNat).size = n.toNat := by simp; omega
      simp only [inv, if_neg (show ¬ ((2 : Int) = 1) by decide)]
      have hci : chk 1 a (s.extract a.toNat (a + n).toNat) 0 = 0 := by
        unfold chk
        rw [if_neg (by omega), if_neg (by omega), hg, if_neg (by omega), if_neg (by omega)]
      refine ⟨?_, ?_, hci, by rw [hz]; omega⟩
      · unfold dDo
        rw [if_neg (by simp [hci]), if_pos rfl, if_neg (by rw [hz]; omega), if_neg (by rw [hz, hg]; omega)]
        exact del_back s a.toNat (a + n).toNat (by omega) (by omega)
      · unfold dDo
        rw [if_neg (by simp [hci]), if_pos rfl, if_neg (by rw [hz]; omega), if_neg (by rw [hz, hg]; omega)]
end Go.Proofs.Yteggenihjhclkaa.Tx
set_option linter.unusedSimpArgs false
set_option linter.unusedVariables false
set_option maxRecDepth 16000
namespace Go.Proofs.Yteggenihjhclkaa.Tx
open Go.RowKit Go.Lib PWire Go.Proofs.YteggenihjhclkaaW.PrintWords Go.Proofs.YteggenihjhclkaaW.PrintLast Go.Proofs.YteggenihjhclkaaW.PrintMore
/-- A document's bytes. -/
def saved (s : ByteArray) : ByteArray := bstr (num s.size) ++ s
theorem nb_saved (s : ByteArray) : nb (saved s) = num s.size ++ nb s := by rw [saved, nb_append, nb_bstr _ (num_lt _)]
set_option maxHeartbeats 4000000 in
theorem save_any (g : Nat) (s : ByteArray) (w : World) (hc : IsDoc w g s) (hs : s.size ≤ 200) : Calls Try.prog 56 #[.pointer (some ⟨g, 0, none⟩)] w fun e w' => e = .returned (.string (saved s)) ∧ Turn Nope w w' := by
  have HC := Lib.hid (blk_alloc hc (.cells #[.slice none 0 0] 114))
  have H0 : Hid (WrAt (w.alloc (.cells #[.slice none 0 0] 114)) w.heap.size (At w.heap.size) w.heap.size (.slice none 0 0) []) := by
    refine ⟨blk_new w _, ⟨rfl, .inl ⟨rfl, rfl⟩⟩, rfl, ?_, ?_, ?_⟩
    · intro k hk; simp [Value.ownBlock] at hk
    · intro k hk; have : k = _ := hk; subst this; simp
    · intro k hk; have : k = _ := hk; subst this; exact Nat.le_refl _
  have c0 := blk_cell HC.out 0
  simp at c0
  clear hc
  go_enter Try.func56, Try.ntmps56
  go_wp2_with (first
    | (go_at_call 57; refine (str_any s (by omega) _ ⟨_, H0.out⟩ (by decide)).mono ?_; rintro e w1 ⟨rfl, ⟨F1, hw1, hk1⟩, ht1⟩; have HW1 := Lib.hid hw1; have HT1 := Lib.hid ((Turn.alloc (Turn.refl Nope w) _).then ht1 (fun i hi => .inr (Nat.le_of_eq hi.symm))); clear hw1 ht1 hk1)
    | (go_at_call 58; refine (wtext_any (saved s) _ (by have := HW1.out; rw [List.nil_append, ← nb_saved] at this; exact this)).mono ?_; rintro e w2 ⟨rfl, hw⟩; have HT2 := Lib.hid (show Turn Nope w w2 by rw [hw]; exact HT1.out); clear hw))
  go_ret
  exact ⟨rfl, HT2.out⟩
set_option maxHeartbeats 4000000 in
theorem load_any (s : ByteArray) (w : World) (hs : s.size ≤ 200) : Calls Try.prog 65 #[.string (saved s)] w fun e w' => ∃ g, e = .returned (.tuple #[.pointer (some ⟨g, 0, none⟩), .int .i64 0]) ∧ IsDoc w' g s ∧ w.heap.size ≤ g ∧ Turn Nope w w' := by
  have hz : (saved s).size ≤ 600 := by
    have h1 := num_le s.size (by omega)
    rw [← nb_length, nb_saved, List.length_append, nb_length]; omega
  obtain ⟨r, hf, hr⟩ := strS s 200 (by omega) (by decide) (saved s) [] (by rw [nb_saved, List.append_nil]) hz
  have HF := Lib.hid hf
  have hr0 := nb_nil hr
  have HE := Lib.hid (show wire_Reader_End.f r 0 = some (0, r, 0) by rw [hr0, wire_Reader_End.f, if_pos (by rw [ByteArray.toList_eq])])
  clear hf hr hr0
  have HB0 := Lib.hid (Below.refl w.heap.size w)
  go_enter Try.func65, Try.ntmps65
  go_wp2_with (first
    | (go_at_call 68; refine (wire_Read.calls _ _ 0 w _ HB0.out rfl).mono ?_; rintro e w2 ⟨g2, rfl, hi, hb, -⟩; have HI := Lib.hid hi; have HB := Lib.hid hb; clear hi hb)
    | (go_at_call 69; refine (wire_Reader_Str.calls 2000 _ _ _ _ _ _ _ w _ HI.out HB.out HF.out).mono ?_; rintro e w3 ⟨rfl, hi, hb, -⟩; have HI := Lib.hid hi; have HB := Lib.hid hb; clear hi hb)
    | (go_at_call 70; refine (wire_Reader_End.calls _ _ _ _ _ _ w _ HI.out HB.out HE.out).mono ?_; rintro e w4 ⟨rfl, hi, hb, -⟩; have HI := Lib.hid hi; have HB := Lib.hid hb; clear hi hb))
  go_ret2
  exact ⟨_, rfl, blk_new _ _, HB.out.size, (Turn.toNope HB.out).alloc _⟩
end Go.Proofs.Yteggenihjhclkaa.Tx
