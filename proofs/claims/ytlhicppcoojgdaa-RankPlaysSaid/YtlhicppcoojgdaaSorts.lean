import Derived.Test.YtlhicppcoojgdaaArgs
set_option linter.unusedVariables false
namespace Go.Proofs.Ytlhicppcoojgdaa
open Go.RowKit
attribute [local go_sem] lib_max2 lib_min2 lib_max_two lib_min_two
theorem min_of (len k : Nat) : ∃ n : Nat, n ≤ len ∧ n ≤ k ∧ (if (k : Int) < (len : Int) then (k : Int) else (len : Int)) = (n : Int) := by
  by_cases h : (k : Int) < (len : Int)
  · exact ⟨k, by omega, by omega, if_pos h⟩
  · exact ⟨len, by omega, by omega, if_neg h⟩
set_option maxRecDepth 8000 in
set_option maxHeartbeats 4000000 in
theorem sorts_walk (a : Option Addr) (len cap : Nat) (w : World) (hin : IntsIn w a len) :
    Calls Try.prog 3 #[.slice a len cap] w fun e w' => e = .returned (.bool true) ∧ Below w.heap.size w w' := by
  obtain ⟨ts, hin⟩ := hin
  have HIN := Lib.hid hin
  clear hin
  obtain ⟨n, hnl, hn, hmin⟩ := min_of len 100
  replace hmin : (if (100 : Int) < (len : Int) then (100 : Int) else (len : Int)) = (n : Int) := hmin
  go_enter Try.func3, Try.ntmps3
  go_wp2_with fail
  refine (awake_any _).mono ?_
  rintro e w1 ⟨rfl, ht⟩
  have HT1 := Lib.hid ht
  clear ht
  go_wp2_with fail
  refine (one_new w _ HT1.out).mono ?_
  rintro e w2 ⟨q, rfl, h, ht⟩
  have HQ2 := Lib.hid h
  clear h ht HT1
  go_wp2_with fail
  go_loopg [5] n (fun k v5 wr => ∃ (i : Nat) (l : List Thing), v5 = .int .i64 (i : Int) ∧ Hid (k + i = n ∧ l.length = i ∧ Filled ts i l ∧ One w wr q l i))
  case atStart => exact ⟨0, [], rfl, rfl, rfl, Filled.nil ts, HQ2.out⟩
  case round =>
    obtain ⟨i, l, rfl, hi⟩ := hrel
    clear HQ2
    have hin := hi.out.1
    have hll := hi.out.2.1
    have HLL := Lib.hid hll
    clear hll
    by_cases hlt : i < n
    · have b1 : decide ((i : Int) < (n : Int)) = true := by simp; omega
      have b1n : decide (i < n) = true := by simp; omega
      have hw : wrap64 ((i : Int) + 1) = (i : Int) + 1 := IntWalk.wrap64_in _ ⟨by omega, by omega⟩
      obtain ⟨ad, rfl, c0⟩ := HIN.out.2 i (by omega)
      have c0 := cell_later hi.out.2.2.2.turn.nopeBelow c0
      have i0 : (0 : Int) ≤ (i : Int) := by omega
      have i1 : (i : Int) < (len : Int) := by omega
      go_wp2_with (go_at_call 10; refine (one_add hi.out.2.2.2 (by rw [HLL.out]; omega) (by omega) (ts i) i).mono ?_; rintro e w3 ⟨rfl, h3, _⟩; have H3 := Lib.hid h3; clear h3)
      go_roundg (n - (i + 1))
      case measure => omega
      case rel => exact ⟨i + 1, insR (ts i, (i : Int)) l, by go_num, by omega, by rw [insR_length, HLL.out], hi.out.2.2.1.add, H3.out⟩
    · have b1 : decide ((i : Int) < (n : Int)) = false := by simp; omega
      have b1n : decide (i < n) = false := by simp; omega
      obtain rfl : i = n := by omega
      have HF := Lib.hid hi.out.2.2.1
      have HQ3 := Lib.hid hi.out.2.2.2
      clear hi hin hlt
      go_wp2_with fail
      go_loopg [6, 7, 8, 9, 10, 11] i (fun k v6 v7 v8 v9 v10 v11 wr => ∃ (j : Nat) (t who : Int) (m : List Thing), v6 = .int .i64 t ∧ v7 = .int .i64 who ∧ v8 = .int .i64 (j : Int) ∧ Hid (k + j = i ∧ m.length + j = i ∧ Filled ts i m ∧ (0 < j → ∀ x ∈ m, t < x.1 ∨ t = x.1 ∧ who < x.2) ∧ One w wr q m i))
      case atStart => exact ⟨0, 0, 0, l, rfl, rfl, rfl, rfl, HLL.out, HF.out, fun h => absurd h (Nat.lt_irrefl 0), HQ3.out⟩
      case round =>
        obtain ⟨j, t, who, m, rfl, rfl, rfl, hj⟩ := hrel
        clear HQ3 HF HLL
        have hji := hj.out.1
        have hml := hj.out.2.1
        by_cases hlt : j < i
        · have b2 : decide ((j : Int) < (i : Int)) = true := by simp; omega
          have b2n : decide (j < i) = true := by simp; omega
          have hw : wrap64 ((j : Int) + 1) = (j : Int) + 1 := IntWalk.wrap64_in _ ⟨by omega, by omega⟩
          cases m with
          | nil => simp at hml; omega
          | cons x m =>
            obtain ⟨t1, who1⟩ := x
            obtain ⟨y, hx, hy⟩ := hj.out.2.2.1.mem _ List.mem_cons_self
            injection hx with hx1 hx2
            subst hx1; subst hx2
            simp only [List.length_cons] at hml
            have d1 : decide ((y : Int) < 0) = false := by simp
            have d2 : decide ((y : Int) ≥ (i : Int)) = false := by simp; omega
            have d2' : decide ((i : Int) ≤ (y : Int)) = false := by simp; omega
            have d2n : decide (i ≤ y) = false := by simp; omega
            have d3 : (ts y != ts y) = false := by simp
            obtain ⟨ad, rfl, c0⟩ := HIN.out.2 y (by omega)
            have i0 : (0 : Int) ≤ (y : Int) := by omega
            have i1 : (y : Int) < (len : Int) := by omega
            have HML := Lib.hid hml
            clear hml
            have e1 := hj.out.2.2.2.1
            by_cases hj0 : j = 0
            · have p1 : decide ((j : Int) > 0) = false := by simp; omega
              have p1' : decide ((0 : Int) < (j : Int)) = false := by simp; omega
              have p1n : decide (0 < j) = false := by simp; omega
              clear hj0 e1
              go_wp2_with fail
              refine (one_take_some hj.out.2.2.2.2 (by have := HML.out; omega)).mono ?_
              rintro e w3 ⟨rfl, h3, _⟩
              have c0 := cell_later h3.turn.nopeBelow c0
              have H3 := Lib.hid h3
              clear h3
              go_wp2_with fail
              go_roundg (i - (j + 1))
              case measure => omega
              case rel => exact ⟨j + 1, ts y, y, m, rfl, rfl, by go_num, by omega, by have := HML.out; omega, hj.out.2.2.1.tail, fun _ x hx => (List.pairwise_cons.1 hj.out.2.2.1.ord).1 x hx, H3.out⟩
            · have p1 : decide ((j : Int) > 0) = true := by simp; omega
              have p1' : decide ((0 : Int) < (j : Int)) = true := by simp; omega
              have p1n : decide (0 < j) = true := by simp; omega
              have e2 := e1 (by omega) _ List.mem_cons_self
              clear hj0 e1
              by_cases ht : t = ts y
              · have q1 : decide (ts y < t) = false := by simp; omega
                have q2 : (ts y == t) = true := by simp [ht]
                have q3 : decide ((y : Int) ≤ who) = false := by simp; omega
                clear e2 ht
                go_wp2_with fail
                refine (one_take_some hj.out.2.2.2.2 (by have := HML.out; omega)).mono ?_
                rintro e w3 ⟨rfl, h3, _⟩
                have c0 := cell_later h3.turn.nopeBelow c0
                have H3 := Lib.hid h3
                clear h3
                go_wp2_with fail
                go_roundg (i - (j + 1))
                case measure => omega
                case rel => exact ⟨j + 1, ts y, y, m, rfl, rfl, by go_num, by omega, by have := HML.out; omega, hj.out.2.2.1.tail, fun _ x hx => (List.pairwise_cons.1 hj.out.2.2.1.ord).1 x hx, H3.out⟩
              · have q1 : decide (ts y < t) = false := by simp; omega
                have q2 : (ts y == t) = false := by simp; omega
                clear e2 ht
                go_wp2_with fail
                refine (one_take_some hj.out.2.2.2.2 (by have := HML.out; omega)).mono ?_
                rintro e w3 ⟨rfl, h3, _⟩
                have c0 := cell_later h3.turn.nopeBelow c0
                have H3 := Lib.hid h3
                clear h3
                go_wp2_with fail
                go_roundg (i - (j + 1))
                case measure => omega
                case rel => exact ⟨j + 1, ts y, y, m, rfl, rfl, by go_num, by omega, by have := HML.out; omega, hj.out.2.2.1.tail, fun _ x hx => (List.pairwise_cons.1 hj.out.2.2.1.ord).1 x hx, H3.out⟩
        · obtain rfl : j = i := by omega
          have hm0 : m = [] := by cases m with | nil => rfl | cons x m => simp at hml
          subst hm0
          have b2 : decide ((j : Int) < (j : Int)) = false := by simp
          clear hji hml hlt
          go_wp2_with (first
            | (go_at_call 11; refine (one_take_none hj.out.2.2.2.2).mono ?_; rintro e w3 ⟨rfl, rfl⟩)
            | (go_at_call 12; refine (one_len hj.out.2.2.2.2).mono ?_; rintro e w4 ⟨rfl, rfl⟩))
          go_ret
          exact ⟨rfl, hj.out.2.2.2.2.turn.nopeBelow⟩
end Go.Proofs.Ytlhicppcoojgdaa
