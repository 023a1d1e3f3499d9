/- Check, New, Count and Do, walked. -/
import Derived.Test.YtianagpneoopeaaSt
set_option maxRecDepth 16000
set_option linter.unusedVariables false
set_option linter.unusedSimpArgs false
namespace Go.Proofs.Ytianagpneoopeaa
open Go.RowKit Go.Maps
variable {C : Nm → Int} {K : List Nm} {w0 w w' : World} {s mb n : Nat} {D : Dm}
def nmOf (x : ByteArray) : Nm := x.data.toList
theorem nm_len (x : ByteArray) : (nmOf x).length = x.size := by unfold nmOf; rw [Array.length_toList]; rfl
theorem make_map (W : World) : (Instr.makeMap 43 none).run Try.prog W = .ok (.map (some W.heap.size)) (W.alloc (.map #[] 0)) := by
  first | exact run_makeMap W _ | kernel_rfl | rfl
theorem cnt_new (w : World) : CntM (w.alloc (.map #[] 0)) w.heap.size 0 (.map []) (fun _ => 0) [] := ⟨World.ownsMap_made _ _ _ _, fun x => rfl, fun x => by simp [Maps.has], rfl⟩
theorem new_any (w0 w : World) (ht : Turn Nope w0 w) : Calls Try.prog 7 #[] w fun e w' => ∃ s mb, e = .returned (.pointer (some ⟨s, 0, none⟩)) ∧ Sh w0 w' s mb 0 (fun _ => 0) [] ∧ w.heap.size ≤ s ∧ w.heap.size ≤ mb ∧ Turn Nope w w' := by
  have HT := Lib.hid ht
  clear ht
  have hmp := make_map
  go_enter Try.func7, Try.ntmps7
  go_wp2_with fail
  go_ret
  exact ⟨_, w.heap.size, rfl, ⟨(by have := blk_new (w.alloc (.map #[] 0)) (.cells #[.map (some w.heap.size)] 45); simpa using this), Nat.le_trans HT.out.size (by simp), HT.out.size, ⟨_, (cnt_new w).turn ((Turn.refl Nope _).alloc _) fun h => h⟩, good_new⟩, (by simp), Nat.le_refl _, ((Turn.refl _ _).alloc _).alloc _⟩
theorem count_any (h : Sh w0 w s mb n C K) {x : ByteArray} (hx : x.size ≤ maxLen) : Calls Try.prog 10 #[.pointer (some ⟨s, 0, none⟩), .string x] w fun e w' => e = .returned (.int .i64 (C (nmOf x))) ∧ Turn Nope w w' := by
  obtain ⟨D, hD⟩ := h.map
  have hl := hD.look1 hx
  have hl2 := (hD.turn (Turn.refl Nope w).drew fun h => h).look1 hx
  have c0 := h.cell
  clear h hD
  go_enter Try.func10, Try.ntmps10
  go_wp2_with (go_quiet (fail))
  all_goals
    go_ret
    exact ⟨rfl, by repeat (first | exact Turn.refl _ _ | apply Turn.drewN | apply Turn.drew)⟩
theorem chk_kind {o : Op3} (h : o.k ≠ 1 ∧ o.k ≠ 2) : chk o = 5 := by unfold chk; rw [if_pos h]
theorem chk_arg {o : Op3} (h : ¬ (o.k ≠ 1 ∧ o.k ≠ 2)) (h2 : o.nm = [] ∨ 12 < o.nm.length ∨ o.N < 1 ∨ 1099511627776 < o.N) : chk o = 4 := by unfold chk; rw [if_neg h, if_pos h2]
theorem chk_fine {o : Op3} (h : ¬ (o.k ≠ 1 ∧ o.k ≠ 2)) (h2 : ¬ (o.nm = [] ∨ 12 < o.nm.length ∨ o.N < 1 ∨ 1099511627776 < o.N)) : chk o = 0 := by unfold chk; rw [if_neg h, if_neg h2]
theorem nm_nil {x : ByteArray} : nmOf x = [] ↔ x.size = 0 := by
  rw [← nm_len, List.length_eq_zero_iff]
set_option maxHeartbeats 4000000 in
theorem check_any (kd : Int) (x : ByteArray) (N : Int) (w : World) : Calls Try.prog 17 #[.agg #[.int .i64 kd, .string x, .int .i64 N]] w fun e w' => e = .returned (.int .i64 (chk ⟨kd, nmOf x, N⟩)) ∧ Turn Nope w w' := by
  obtain ⟨c, hc⟩ : ∃ c, chk ⟨kd, nmOf x, N⟩ = c := ⟨_, rfl⟩
  rw [hc]
  have HC := Lib.hid hc
  clear hc
  by_cases k1 : kd = 1 ∨ kd = 2
  · by_cases h1 : x.size = 0
    · have hx : x = ⟨#[]⟩ := ByteArray.ext (Array.eq_empty_of_size_eq_zero h1)
      subst hx
      clear h1
      rcases k1 with rfl | rfl
      · have a1 : ((1 : Int) != 1) = false := by decide
        have a2 : ((1 : Int) != 2) = true := by decide
        have hv : c = 4 := by rw [← HC.out]; exact chk_arg (fun h => by first | exact h.1 rfl | exact h.2 rfl) (.inl rfl)
        subst hv
        go_enter Try.func17, Try.ntmps17
        go_wp2_with (go_quiet (fail))
        all_goals
          go_ret
          exact ⟨rfl, by repeat (first | exact Turn.refl _ _ | apply Turn.drewN | apply Turn.drew | apply Turn.alloc)⟩
      · have a1 : ((2 : Int) != 1) = true := by decide
        have a2 : ((2 : Int) != 2) = false := by decide
        have hv : c = 4 := by rw [← HC.out]; exact chk_arg (fun h => by first | exact h.1 rfl | exact h.2 rfl) (.inl rfl)
        subst hv
        go_enter Try.func17, Try.ntmps17
        go_wp2_with (go_quiet (fail))
        all_goals
          go_ret
          exact ⟨rfl, by repeat (first | exact Turn.refl _ _ | apply Turn.drewN | apply Turn.drew | apply Turn.alloc)⟩
    · have e1 : x.toList.isEmpty = false := by
        rw [ByteArray.toList_eq, List.isEmpty_eq_false_iff]; intro e; exact h1 (nm_nil.1 e)
      by_cases h2 : 12 < x.size
      · have e2 : decide ((12 : Int) < (x.size : Int)) = true := by simp; omega
        have e2n : decide (12 < x.size) = true := by simp; omega
        rcases k1 with rfl | rfl
        · have a1 : ((1 : Int) != 1) = false := by decide
          have a2 : ((1 : Int) != 2) = true := by decide
          have hv : c = 4 := by rw [← HC.out]; exact chk_arg (fun h => by first | exact h.1 rfl | exact h.2 rfl) (.inr (.inl (by rw [nm_len]; exact h2)))
          subst hv
          go_enter Try.func17, Try.ntmps17
          go_wp2_with (go_quiet (fail))
          all_goals
            go_ret
            exact ⟨rfl, by repeat (first | exact Turn.refl _ _ | apply Turn.drewN | apply Turn.drew | apply Turn.alloc)⟩
        · have a1 : ((2 : Int) != 1) = true := by decide
          have a2 : ((2 : Int) != 2) = false := by decide
          have hv : c = 4 := by rw [← HC.out]; exact chk_arg (fun h => by first | exact h.1 rfl | exact h.2 rfl) (.inr (.inl (by rw [nm_len]; exact h2)))
          subst hv
          go_enter Try.func17, Try.ntmps17
          go_wp2_with (go_quiet (fail))
          all_goals
            go_ret
            exact ⟨rfl, by repeat (first | exact Turn.refl _ _ | apply Turn.drewN | apply Turn.drew | apply Turn.alloc)⟩
      · have e2 : decide ((12 : Int) < (x.size : Int)) = false := by simp; omega
        have e2n : decide (12 < x.size) = false := by simp; omega
        by_cases h3 : N < 1
        · have e3 : decide (N < 1) = true := by simp; omega
          rcases k1 with rfl | rfl
          · have a1 : ((1 : Int) != 1) = false := by decide
            have a2 : ((1 : Int) != 2) = true := by decide
            have hv : c = 4 := by rw [← HC.out]; exact chk_arg (fun h => by first | exact h.1 rfl | exact h.2 rfl) (.inr (.inr (.inl h3)))
            subst hv
            go_enter Try.func17, Try.ntmps17
            go_wp2_with (go_quiet (fail))
            all_goals
              go_ret
              exact ⟨rfl, by repeat (first | exact Turn.refl _ _ | apply Turn.drewN | apply Turn.drew | apply Turn.alloc)⟩
          · have a1 : ((2 : Int) != 1) = true := by decide
            have a2 : ((2 : Int) != 2) = false := by decide
            have hv : c = 4 := by rw [← HC.out]; exact chk_arg (fun h => by first | exact h.1 rfl | exact h.2 rfl) (.inr (.inr (.inl h3)))
            subst hv
            go_enter Try.func17, Try.ntmps17
            go_wp2_with (go_quiet (fail))
            all_goals
              go_ret
              exact ⟨rfl, by repeat (first | exact Turn.refl _ _ | apply Turn.drewN | apply Turn.drew | apply Turn.alloc)⟩
        · have e3 : decide (N < 1) = false := by simp; omega
          by_cases h4 : 1099511627776 < N
          · have e4 : decide (1099511627776 < N) = true := by simp; omega
            rcases k1 with rfl | rfl
            · have a1 : ((1 : Int) != 1) = false := by decide
              have a2 : ((1 : Int) != 2) = true := by decide
              have hv : c = 4 := by rw [← HC.out]; exact chk_arg (fun h => by first | exact h.1 rfl | exact h.2 rfl) (.inr (.inr (.inr h4)))
              subst hv
              go_enter Try.func17, Try.ntmps17
              go_wp2_with (go_quiet (fail))
              all_goals
                go_ret
                exact ⟨rfl, by repeat (first | exact Turn.refl _ _ | apply Turn.drewN | apply Turn.drew | apply Turn.alloc)⟩
            · have a1 : ((2 : Int) != 1) = true := by decide
              have a2 : ((2 : Int) != 2) = false := by decide
              have hv : c = 4 := by rw [← HC.out]; exact chk_arg (fun h => by first | exact h.1 rfl | exact h.2 rfl) (.inr (.inr (.inr h4)))
              subst hv
              go_enter Try.func17, Try.ntmps17
              go_wp2_with (go_quiet (fail))
              all_goals
                go_ret
                exact ⟨rfl, by repeat (first | exact Turn.refl _ _ | apply Turn.drewN | apply Turn.drew | apply Turn.alloc)⟩
          · have e4 : decide (1099511627776 < N) = false := by simp; omega
            rcases k1 with rfl | rfl
            · have a1 : ((1 : Int) != 1) = false := by decide
              have a2 : ((1 : Int) != 2) = true := by decide
              have hv : c = 0 := by rw [← HC.out]; exact chk_fine (fun h => by first | exact h.1 rfl | exact h.2 rfl) (fun h => by rcases h with h | h | h | h; exact h1 (nm_nil.1 h); exact h2 (by rw [nm_len] at h; exact h); exact h3 h; exact h4 h)
              subst hv
              go_enter Try.func17, Try.ntmps17
              go_wp2_with (go_quiet (fail))
              all_goals
                go_ret
                exact ⟨rfl, by repeat (first | exact Turn.refl _ _ | apply Turn.drewN | apply Turn.drew | apply Turn.alloc)⟩
            · have a1 : ((2 : Int) != 1) = true := by decide
              have a2 : ((2 : Int) != 2) = false := by decide
              have hv : c = 0 := by rw [← HC.out]; exact chk_fine (fun h => by first | exact h.1 rfl | exact h.2 rfl) (fun h => by rcases h with h | h | h | h; exact h1 (nm_nil.1 h); exact h2 (by rw [nm_len] at h; exact h); exact h3 h; exact h4 h)
              subst hv
              go_enter Try.func17, Try.ntmps17
              go_wp2_with (go_quiet (fail))
              all_goals
                go_ret
                exact ⟨rfl, by repeat (first | exact Turn.refl _ _ | apply Turn.drewN | apply Turn.drew | apply Turn.alloc)⟩
  · have a1 : (kd != 1) = true := by simp; omega
    have a2 : (kd != 2) = true := by simp; omega
    have hv : c = 5 := by rw [← HC.out]; exact chk_kind (by constructor <;> (intro e; exact k1 (by first | exact .inl e | exact .inr e)))
    subst hv
    go_enter Try.func17, Try.ntmps17
    go_wp2_with (go_quiet (fail))
    all_goals
      go_ret
      exact ⟨rfl, by repeat (first | exact Turn.refl _ _ | apply Turn.drewN | apply Turn.drew | apply Turn.alloc)⟩
end Go.Proofs.Ytianagpneoopeaa
