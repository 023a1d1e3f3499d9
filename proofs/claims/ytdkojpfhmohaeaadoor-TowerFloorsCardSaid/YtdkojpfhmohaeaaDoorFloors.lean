import Derived.Test.YtdkojpfhmohaeaaDoorArgs
import Derived.Test.YtdkojpfhmohaeaaDoorTILaw2
set_option linter.unusedVariables false
namespace Go.Proofs.YtdkojpfhmohaeaaDoor
open Go.RowKit TI
/-- A tower that was filled with versions, each kept as itself. -/
structure FillT (ls : Nat → Int) (i : Nat) (t : List (Int × Int)) : Prop where
  sorted : SortedT t
  mem : ∀ y ∈ t, ∃ j, j < i ∧ y = (ls j, ls j)
  all : ∀ j, j < i → (ls j, ls j) ∈ t
  len : t.length ≤ i
theorem FillT.nil (ls : Nat → Int) : FillT ls 0 [] := ⟨List.Pairwise.nil, (fun _ h => by cases h), (fun _ h => by omega), Nat.le_refl _⟩
theorem FillT.add {ls : Nat → Int} {i : Nat} {t : List (Int × Int)} (h : FillT ls i t) : FillT ls (i + 1) (insT (ls i, ls i) t) := by
  refine ⟨insT_sorted _ h.sorted, fun y hy => ?_, fun j hj => ?_, Nat.le_trans (insT_len _ _) (Nat.succ_le_succ h.len)⟩
  · rcases (insT_mem h.sorted).1 hy with rfl | ⟨h1, _⟩
    · exact ⟨i, by omega, rfl⟩
    · obtain ⟨j, hj, e⟩ := h.mem y h1; exact ⟨j, by omega, e⟩
  · rw [insT_mem h.sorted]
    by_cases e : ls j = ls i
    · left; rw [e]
    · refine .inr ⟨h.all j ?_, e⟩
      by_cases hji : j = i
      · subst hji; exact absurd rfl e
      · omega
/-- The best of the first j. -/
def BestIs (ls : Nat → Int) (v : Int) (j : Nat) (best : Int) (is : Bool) : Prop :=
  (is = false ∧ best = 0 ∧ ∀ i, i < j → v < ls i) ∨ (is = true ∧ (∃ i, i < j ∧ best = ls i) ∧ best ≤ v ∧ ∀ i, i < j → ls i ≤ v → ls i ≤ best)
theorem BestIs.step_no {ls : Nat → Int} {v : Int} {j : Nat} {best : Int} {is : Bool} (h : BestIs ls v j best is) (hn : ¬ (ls j ≤ v ∧ (is = false ∨ ls j > best))) : BestIs ls v (j + 1) best is := by
  rcases h with ⟨h1, h2, h3⟩ | ⟨h1, ⟨i, hi, h2⟩, h3, h4⟩
  · refine .inl ⟨h1, h2, fun i hi => ?_⟩
    by_cases e : i = j
    · subst e; exact Int.not_le.1 fun hl => hn ⟨hl, .inl h1⟩
    · exact h3 i (by omega)
  · refine .inr ⟨h1, ⟨i, by omega, h2⟩, h3, fun i' hi' hl => ?_⟩
    by_cases e : i' = j
    · subst e; exact Int.not_lt.1 fun hb => hn ⟨hl, .inr hb⟩
    · exact h4 i' (by omega) hl
theorem BestIs.step_yes {ls : Nat → Int} {v : Int} {j : Nat} {best : Int} {is : Bool} (h : BestIs ls v j best is) (hv : ls j ≤ v) (hn : is = false ∨ ls j > best) : BestIs ls v (j + 1) (ls j) true := by
  refine .inr ⟨rfl, ⟨j, by omega, rfl⟩, hv, fun i hi hl => ?_⟩
  by_cases e : i = j
  · subst e; exact Int.le_refl _
  · rcases h with ⟨h1, h2, h3⟩ | ⟨h1, _, h3, h4⟩
    · have := h3 i (by omega); omega
    · have := h4 i (by omega) hl
      rcases hn with hn | hn
      · rw [h1] at hn; cases hn
      · omega
theorem best_floor {ls : Nat → Int} {v : Int} {n : Nat} {t : List (Int × Int)} {best : Int} {is : Bool} (h : FillT ls n t) (hb : BestIs ls v n best is) : floorR (floorT v t) = .tuple #[.int .i64 best, .int .i64 best, .bool is] := by
  cases hf : floorT v t with
  | none =>
    have h1 := floorT_none hf
    rcases hb with ⟨rfl, rfl, _⟩ | ⟨_, ⟨i, hi, h2⟩, h3, _⟩
    · rfl
    · have := h1 _ (h.all i hi); simp at this; omega
  | some r =>
    obtain ⟨h1, h2, h3⟩ := floorT_some h.sorted hf
    obtain ⟨j, hj, rfl⟩ := h.mem r h1
    rcases hb with ⟨_, _, h4⟩ | ⟨rfl, ⟨i, hi, rfl⟩, h5, h6⟩
    · have := h4 j hj; simp at h2; omega
    · have e1 := h6 j hj h2
      have e2 := h3 _ (h.all i hi) h5
      have e : ls j = ls i := by simp at e2; omega
      show Value.tuple #[.int .i64 (ls j), .int .i64 (ls j), .bool true] = _
      rw [e]
theorem stepsT_le (v : Int) (t : List (Int × Int)) : stepsT v t ≤ t.length := by
  unfold stepsT
  refine Nat.le_trans (Go.Proofs.TowerPlain.stepsH_le _ _) ?_
  rw [List.length_map]
  exact List.length_filter_le _ _
set_option maxRecDepth 8000 in
set_option maxHeartbeats 8000000 in
theorem floors_walk (a : Option Addr) (len cap : Nat) (v : Int) (w : World) (hin : IntsIn w a len) (hT : TabAt w) :
    Calls Tryd.prog 5 #[.slice a len cap, .int .i64 v] w fun e w' => e = .returned (.bool true) ∧ Below w.heap.size w w' := by
  obtain ⟨ls, hin⟩ := hin
  have HIN := Lib.hid hin
  have HT := Lib.hid hT
  clear hin hT
  go_enter Tryd.func5, Tryd.ntmps5
  go_wp2_with fail
  refine (awake_any _ HT.out).mono ?_
  rintro e w1 ⟨rfl, ht⟩
  have HT1 := Lib.hid ht
  clear ht
  go_wp2_with fail
  refine (one_new w _ HT1.out).mono ?_
  rintro e w2 ⟨l, rfl, h, ht⟩
  have HQ2 := Lib.hid h
  clear h ht HT1
  go_wp2_with fail
  go_loopg [6] 40 (fun k v6 wr => ∃ (i : Nat) (t : List (Int × Int)), v6 = .int .i64 (i : Int) ∧ Hid (k + i = 40 ∧ i ≤ len ∧ FillT ls i t ∧ One w wr l t))
  case atStart => exact ⟨0, [], rfl, rfl, Nat.zero_le _, FillT.nil ls, HQ2.out⟩
  case round =>
    obtain ⟨i, t, rfl, hi⟩ := hrel
    clear HQ2
    have hi0 := hi.out.1
    have htl := hi.out.2.2.1.len
    by_cases hlt : i < len ∧ i < 40
    · have b1 : decide ((i : Int) < (len : Int)) = true := by simp; omega
      have b1n : decide (i < len) = true := by simp; omega
      have b2 : decide ((i : Int) < (40 : Int)) = true := by simp; omega
      have b2n : decide (i < 40) = true := by simp; omega
      have hw : wrap64 ((i : Int) + 1) = (i : Int) + 1 := IntWalk.wrap64_in _ ⟨by omega, by omega⟩
      obtain ⟨hv, ad, rfl, c0⟩ := HIN.out.2 i hlt.1
      have c0 := cell_later hi.out.2.2.2.turn.nopeBelow c0
      have i0 : (0 : Int) ≤ (i : Int) := by omega
      have i1 : (i : Int) < (len : Int) := by omega
      have hl1 := hlt.1
      have hl2 := hlt.2
      clear hlt
      go_wp2_with (first | (refine still_tail (id := 7) 9 (by kernel_rfl) (by kernel_rfl) ?_; simp only [List.take_succ_cons, List.take_zero, List.drop_succ_cons, List.drop_zero]; (repeat still_step); refine wpStill_nil ?_))
      refine (one_put (hi.out.2.2.2.nope (Turn.refl _ _).drew) HT.out (ls i) hv.2 (by omega) (ls i)).mono ?_
      rintro e w3 ⟨rfl, h3, _⟩
      have H3 := Lib.hid h3
      clear h3 c0
      go_wp2_with fail
      go_roundg (39 - i)
      case measure => omega
      case rel => exact ⟨i + 1, insT (ls i, ls i) t, by go_num, by omega, by omega, hi.out.2.2.1.add, H3.out⟩
    · have HF := Lib.hid hi.out.2.2.1
      have HQ3 := Lib.hid hi.out.2.2.2
      have hex : (i < len ∧ i = 40) ∨ i = len := by have := hi.out.2.1; omega
      have HI := Lib.hid hi.out
      clear hi hlt
      rcases hex with ⟨h1, h2⟩ | h1
      · have b1 : decide ((i : Int) < (len : Int)) = true := by simp; omega
        have b1n : decide (i < len) = true := by simp; omega
        have b2 : decide ((i : Int) < (40 : Int)) = false := by simp; omega
        have b2n : decide (i < 40) = false := by simp; omega
        have HB1 := Lib.hid (And.intro b1 (And.intro b1n (And.intro b2 b2n)))
        clear h1 h2
        go_wp2_with fail
        go_loopg [7, 8, 9] 40 (fun k v7 v8 v9 wr => ∃ (j : Nat) (best : Int) (is : Bool), v7 = .int .i64 best ∧ v8 = .bool is ∧ v9 = .int .i64 (j : Int) ∧ Hid (k + j = 40 ∧ j ≤ i ∧ BestIs ls v j best is ∧ One w wr l t))
        case atStart => exact ⟨0, 0, false, rfl, rfl, rfl, rfl, Nat.zero_le _, .inl ⟨rfl, rfl, fun i hi => absurd hi (Nat.not_lt_zero i)⟩, HQ3.out⟩
        case round =>
          obtain ⟨j, best, is, rfl, rfl, rfl, hj⟩ := hrel
          clear HQ3 b1 b1n b2 b2n
          have hj0 := hj.out.1
          have hj1 := hj.out.2.1
          have hil := HI.out.2.1
          have hi40 := HI.out.1
          by_cases hlt : j < i
          · have d1 : decide ((j : Int) < (len : Int)) = true := by simp; omega
            have d1n : decide (j < len) = true := by simp; omega
            have d2 : decide ((j : Int) < (40 : Int)) = true := by simp; omega
            have d2n : decide (j < 40) = true := by simp; omega
            have hw : wrap64 ((j : Int) + 1) = (j : Int) + 1 := IntWalk.wrap64_in _ ⟨by omega, by omega⟩
            obtain ⟨hv, ad, rfl, c0⟩ := HIN.out.2 j (by omega)
            have c0 := cell_later hj.out.2.2.2.turn.nopeBelow c0
            have i0 : (0 : Int) ≤ (j : Int) := by omega
            have i1 : (j : Int) < (len : Int) := by omega
            by_cases hle : ls j ≤ v
            · have q1 : decide (ls j ≤ v) = true := by simpa using hle
              cases is with
              | false =>
                have HB := Lib.hid (hj.out.2.2.1.step_yes hle (.inl rfl))
                clear hle
                go_wp2_with fail
                go_roundg (39 - j)
                case measure => omega
                case rel => exact ⟨j + 1, ls j, true, rfl, rfl, by go_num, by omega, by omega, HB.out, hj.out.2.2.2⟩
              | true =>
                by_cases hgt : ls j > best
                · have q2 : decide (ls j > best) = true := by simpa using hgt
                  have q2' : decide (best < ls j) = true := by simpa using hgt
                  have HB := Lib.hid (hj.out.2.2.1.step_yes hle (.inr hgt))
                  clear hle hgt
                  go_wp2_with fail
                  go_roundg (39 - j)
                  case measure => omega
                  case rel => exact ⟨j + 1, ls j, true, rfl, rfl, by go_num, by omega, by omega, HB.out, hj.out.2.2.2⟩
                · have q2 : decide (ls j > best) = false := by simpa using hgt
                  have q2' : decide (best < ls j) = false := by simpa using hgt
                  have HB := Lib.hid (hj.out.2.2.1.step_no (fun h => h.2.elim (fun h => by cases h) hgt))
                  clear hle hgt
                  go_wp2_with fail
                  go_roundg (39 - j)
                  case measure => omega
                  case rel => exact ⟨j + 1, best, true, rfl, rfl, by go_num, by omega, by omega, HB.out, hj.out.2.2.2⟩
            · have q1 : decide (ls j ≤ v) = false := by simpa using hle
              have HB := Lib.hid (hj.out.2.2.1.step_no (fun h => hle h.1))
              clear hle
              go_wp2_with fail
              go_roundg (39 - j)
              case measure => omega
              case rel => exact ⟨j + 1, best, is, rfl, rfl, by go_num, by omega, by omega, HB.out, hj.out.2.2.2⟩
          · obtain rfl : j = i := by omega
            have HR := Lib.hid (best_floor HF.out hj.out.2.2.1)
            have hst := stepsT_le v t
            have hstep : decide ((stepsT v t : Int) ≤ (t.length : Int)) = true := by simp; exact hst
            have hstepn : decide (stepsT v t ≤ t.length) = true := by simp; exact hst
            have c1 : (is == is) = true := by simp
            have c2 : (best == best) = true := by simp
            have b1 := HB1.out.1
            have b1n := HB1.out.2.1
            have b2 := HB1.out.2.2.1
            have b2n := HB1.out.2.2.2
            clear hlt
            go_wp2_with fail
            refine (one_floor hj.out.2.2.2 v).mono ?_
            rw [HR.out]
            rintro e w5 ⟨rfl, h5, _⟩
            have H5 := Lib.hid h5
            clear h5
            go_wp2_with fail
            refine (one_steps H5.out (by omega) v).mono ?_
            rintro e w6 ⟨rfl, rfl⟩
            go_wp2_with fail
            refine (one_len H5.out).mono ?_
            rintro e w7 ⟨rfl, rfl⟩
            go_wp2_with fail
            go_ret
            exact ⟨rfl, H5.out.turn.nopeBelow⟩
      · have b1 : decide ((i : Int) < (len : Int)) = false := by simp; omega
        have b1n : decide (i < len) = false := by simp; omega
        have HB1 := Lib.hid (And.intro b1 b1n)
        clear h1
        go_wp2_with fail
        go_loopg [7, 8, 9] 40 (fun k v7 v8 v9 wr => ∃ (j : Nat) (best : Int) (is : Bool), v7 = .int .i64 best ∧ v8 = .bool is ∧ v9 = .int .i64 (j : Int) ∧ Hid (k + j = 40 ∧ j ≤ i ∧ BestIs ls v j best is ∧ One w wr l t))
        case atStart => exact ⟨0, 0, false, rfl, rfl, rfl, rfl, Nat.zero_le _, .inl ⟨rfl, rfl, fun i hi => absurd hi (Nat.not_lt_zero i)⟩, HQ3.out⟩
        case round =>
          obtain ⟨j, best, is, rfl, rfl, rfl, hj⟩ := hrel
          clear HQ3 b1 b1n
          have hj0 := hj.out.1
          have hj1 := hj.out.2.1
          have hil := HI.out.2.1
          have hi40 := HI.out.1
          by_cases hlt : j < i
          · have d1 : decide ((j : Int) < (len : Int)) = true := by simp; omega
            have d1n : decide (j < len) = true := by simp; omega
            have d2 : decide ((j : Int) < (40 : Int)) = true := by simp; omega
            have d2n : decide (j < 40) = true := by simp; omega
            have hw : wrap64 ((j : Int) + 1) = (j : Int) + 1 := IntWalk.wrap64_in _ ⟨by omega, by omega⟩
            obtain ⟨hv, ad, rfl, c0⟩ := HIN.out.2 j (by omega)
            have c0 := cell_later hj.out.2.2.2.turn.nopeBelow c0
            have i0 : (0 : Int) ≤ (j : Int) := by omega
            have i1 : (j : Int) < (len : Int) := by omega
            by_cases hle : ls j ≤ v
            · have q1 : decide (ls j ≤ v) = true := by simpa using hle
              cases is with
              | false =>
                have HB := Lib.hid (hj.out.2.2.1.step_yes hle (.inl rfl))
                clear hle
                go_wp2_with fail
                go_roundg (39 - j)
                case measure => omega
                case rel => exact ⟨j + 1, ls j, true, rfl, rfl, by go_num, by omega, by omega, HB.out, hj.out.2.2.2⟩
              | true =>
                by_cases hgt : ls j > best
                · have q2 : decide (ls j > best) = true := by simpa using hgt
                  have q2' : decide (best < ls j) = true := by simpa using hgt
                  have HB := Lib.hid (hj.out.2.2.1.step_yes hle (.inr hgt))
                  clear hle hgt
                  go_wp2_with fail
                  go_roundg (39 - j)
                  case measure => omega
                  case rel => exact ⟨j + 1, ls j, true, rfl, rfl, by go_num, by omega, by omega, HB.out, hj.out.2.2.2⟩
                · have q2 : decide (ls j > best) = false := by simpa using hgt
                  have q2' : decide (best < ls j) = false := by simpa using hgt
                  have HB := Lib.hid (hj.out.2.2.1.step_no (fun h => h.2.elim (fun h => by cases h) hgt))
                  clear hle hgt
                  go_wp2_with fail
                  go_roundg (39 - j)
                  case measure => omega
                  case rel => exact ⟨j + 1, best, true, rfl, rfl, by go_num, by omega, by omega, HB.out, hj.out.2.2.2⟩
            · have q1 : decide (ls j ≤ v) = false := by simpa using hle
              have HB := Lib.hid (hj.out.2.2.1.step_no (fun h => hle h.1))
              clear hle
              go_wp2_with fail
              go_roundg (39 - j)
              case measure => omega
              case rel => exact ⟨j + 1, best, is, rfl, rfl, by go_num, by omega, by omega, HB.out, hj.out.2.2.2⟩
          · obtain rfl : j = i := by omega
            have HR := Lib.hid (best_floor HF.out hj.out.2.2.1)
            have hst := stepsT_le v t
            have hstep : decide ((stepsT v t : Int) ≤ (t.length : Int)) = true := by simp; exact hst
            have hstepn : decide (stepsT v t ≤ t.length) = true := by simp; exact hst
            have c1 : (is == is) = true := by simp
            have c2 : (best == best) = true := by simp
            have b1 := HB1.out.1
            have b1n := HB1.out.2
            clear hlt
            go_wp2_with fail
            refine (one_floor hj.out.2.2.2 v).mono ?_
            rw [HR.out]
            rintro e w5 ⟨rfl, h5, _⟩
            have H5 := Lib.hid h5
            clear h5
            go_wp2_with fail
            refine (one_steps H5.out (by omega) v).mono ?_
            rintro e w6 ⟨rfl, rfl⟩
            go_wp2_with fail
            refine (one_len H5.out).mono ?_
            rintro e w7 ⟨rfl, rfl⟩
            go_wp2_with fail
            go_ret
            exact ⟨rfl, H5.out.turn.nopeBelow⟩
end Go.Proofs.YtdkojpfhmohaeaaDoor
