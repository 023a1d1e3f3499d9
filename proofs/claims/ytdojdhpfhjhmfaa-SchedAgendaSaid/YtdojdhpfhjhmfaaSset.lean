/- A process's pace from now on: the walk of Set. -/
import Derived.Test.YtdojdhpfhjhmfaaSbn
set_option maxRecDepth 16000
set_option linter.unusedVariables false
namespace Go.Proofs.Ytdojdhpfhjhmfaa
open Go.RowKit
variable {w w' w0 : World} {s q n : Nat} {P : List Int} {t : Int} {l : List Thing} {pv : Value}
attribute [local go_sem] lib_max2 lib_min2 lib_max_two lib_min_two
theorem sb_set_bad (h : SB w0 w s q pv P t l n) (who p : Int) (hb : who < 0 ∨ (P.length : Int) ≤ who) :
    Calls Try.prog 17 #[.pointer (some ⟨s, 0, none⟩), .int .i64 who, .int .i64 p] w fun e w' => e = .returned (.int .i64 6) ∧ SB w0 w' s q pv P t l n ∧ Ks w w' := by
  obtain ⟨A, c, rfl, _⟩ := own_slice h.row
  have c1 := blk_cell h.hs 1
  simp only [List.getElem?_toArray, List.getElem?_cons_zero, List.getElem?_cons_succ] at c1
  have HS := Lib.hid h
  clear h
  by_cases h0 : who < 0
  · have b1 : decide (who < 0) = true := by simpa using h0
    clear hb h0
    go_enter Try.func17, Try.ntmps17
    go_wp2_with (go_quiet (fail))
    go_ret
    exact ⟨rfl, by first | exact HS.out | exact HS.out.nope (by repeat (first | exact Turn.refl _ _ | apply Turn.drewN | apply Turn.drew)), by first | exact Ks.refl _ | exact Ks.ofNope (by repeat (first | exact Turn.refl _ _ | apply Turn.drewN | apply Turn.drew))⟩
  · have b1 : decide (who < 0) = false := by simpa using h0
    have b2 : decide (who ≥ (P.length : Int)) = true := by simp; omega
    have b2' : decide ((P.length : Int) ≤ who) = true := by simp; omega
    clear hb h0
    go_enter Try.func17, Try.ntmps17
    go_wp2_with (go_quiet (fail))
    go_ret
    exact ⟨rfl, by first | exact HS.out | exact HS.out.nope (by repeat (first | exact Turn.refl _ _ | apply Turn.drewN | apply Turn.drew)), by first | exact Ks.refl _ | exact Ks.ofNope (by repeat (first | exact Turn.refl _ _ | apply Turn.drewN | apply Turn.drew))⟩
/-- .. but one row's block. -/
structure Kx (pv : Value) (w w' : World) : Prop where
  size : w.heap.size ≤ w'.heap.size
  keep : ∀ (g : Nat) (o : Obj), w.heap[g]? = some o → ¬ bad4 o → pv.ownBlock ≠ some g → w'.heap[g]? = some o
theorem Kx.ofKs (h : Ks w w') : Kx pv w w' := ⟨h.size, fun g o hg hb _ => h.keep g o hg hb⟩
theorem Kx.trans {a b c : World} (h : Kx pv a b) (k : Kx pv b c) : Kx pv a c := ⟨Nat.le_trans h.size k.size, fun g o hg hb hn => k.keep g o (h.keep g o hg hb hn) hb hn⟩
theorem nums_set (P : List Int) (j : Nat) (x : Int) : nums (P.set j x) = (nums P).set j (.int .i64 x) := by
  unfold nums
  rw [List.map_set]
/-- A pace is turned. -/
theorem SB.paced {g c : Nat} (h : SB w0 w s q (.slice (some ⟨g, 0, none⟩) P.length c) P t l n) (j : Nat) (x : Int) :
    SB w0 (w.setCell ⟨g, j, none⟩ (.int .i64 x)) s q (.slice (some ⟨g, 0, none⟩) P.length c) (P.set j x) t l n ∧ Turn Nope w0 (w.setCell ⟨g, j, none⟩ (.int .i64 x)) := by
  have ht : Turn (At g) w (w.setCell ⟨g, j, none⟩ (.int .i64 x)) := (Turn.refl _ _).set_at _
  have hgs : s ≠ g := fun e => own_ne h.row h.hs (by decide) g rfl e.symm
  obtain ⟨F, hq, h1, h2⟩ := h.one
  have hgF : ¬ F g := hq.row h.row (by decide) (by decide) (by decide) g rfl
  have h7 : Turn Nope w0 (w.setCell ⟨g, j, none⟩ (.int .i64 x)) := h2.set_new (own_base h.row g rfl) _
  refine ⟨⟨⟨F, hq.keep ht (fun k hk e => hgF (e ▸ hk)), h1, h7⟩, ht.blk h.hs (fun e => hgs e), h.new, ?_⟩, h7⟩
  rw [List.length_set, nums_set]
  exact (h.row.stored j _).1
theorem ks_set {g j : Nat} {u : Value} (hg : w0.heap.size ≤ g) (ht : Turn Nope w0 w) : Turn Nope w0 (w.setCell ⟨g, j, none⟩ u) := ht.set_new hg u
set_option maxHeartbeats 4000000 in
theorem sb_set_ok (h : SB w0 w s q pv P t l n) (hl : l.length ≤ 999) (hn : n ≤ 1000000000) {j : Nat} (hj : j < P.length) (p : Int) (ht0 : 0 ≤ t) (ht1 : t ≤ 1000000000000) :
    Calls Try.prog 17 #[.pointer (some ⟨s, 0, none⟩), .int .i64 (j : Int), .int .i64 p] w fun e w' => e = .returned (.int .i64 0) ∧ SB w0 w' s q pv (P.set j (paceOf p)) t (dueL t (paceOf p) j (notOfT (j : Int) l)) (dueN (paceOf p) n) ∧ Kx pv w w' := by
  obtain ⟨g, c, rfl, _⟩ := World.ownsRow.form h.row (by omega)
  have c0 := blk_cell h.hs 0
  have c1 := blk_cell h.hs 1
  simp only [List.getElem?_toArray, List.getElem?_cons_zero, List.getElem?_cons_succ] at c0 c1
  have HS := Lib.hid h
  have HL := Lib.hid (notOfT_length (j : Int) l)
  have HPN := Lib.hid (paceOf_in p)
  have hpx : (if 1048576 < (if p < 0 then 0 else p) then 1048576 else (if p < 0 then 0 else p)) = paceOf p := rfl
  obtain ⟨x1, hx1⟩ : ∃ x1, (if p < 0 then 0 else p) = x1 := ⟨_, rfl⟩
  rw [hx1] at hpx
  generalize paceOf p = px at *
  have b1 : decide ((j : Int) < 0) = false := by simp
  have b2 : decide ((j : Int) ≥ (P.length : Int)) = false := by simp; omega
  have b2' : decide ((P.length : Int) ≤ (j : Int)) = false := by simp; omega
  have b2n : decide (P.length ≤ j) = false := by simp; omega
  have j0 : (0 : Int) ≤ (j : Int) := by omega
  have j1 : (j : Int) < (P.length : Int) := by omega
  clear h
  go_enter Try.func17, Try.ntmps17
  go_wp2_with (go_quiet (fail))
  refine (one_drop (SB.nope HS.out (by repeat (first | exact Turn.refl _ _ | apply Turn.drewN | apply Turn.drew))).one (by omega) (j : Int)).mono ?_
  rintro e w1 ⟨rfl, h1, hk⟩
  have H1 := Lib.hid ((SB.nope HS.out (by repeat (first | exact Turn.refl _ _ | apply Turn.drewN | apply Turn.drew))).kp h1 hk)
  have HK1 : Hid (Ks w w1) := (Ks.ofNope (by repeat (first | exact Turn.refl _ _ | apply Turn.drewN | apply Turn.drew))).trans (Ks.ofKp hk)
  clear h1 hk c0 c1
  have d1 := blk_cell H1.out.hs 1
  simp only [List.getElem?_toArray, List.getElem?_cons_zero, List.getElem?_cons_succ] at d1
  obtain ⟨y, hy⟩ : ∃ y, P[j]? = some y := ⟨P[j], List.getElem?_eq_getElem hj⟩
  have d2 := own_elem H1.out.row j (u := .int .i64 y) (by simp [nums, hy])
  have d3 := World.ownsRow.frozenAt H1.out.row j
  clear hy
  go_wp2_with (go_quiet (fail))
  have H2 := Lib.hid (H1.out.paced j px).1
  have HK2 : Hid (Kx (.slice (some ⟨g, 0, none⟩) P.length c) w (w1.setCell ⟨g, j, none⟩ (.int .i64 px))) := ⟨Nat.le_trans HK1.out.size (by simp [World.setCell]), fun k o hg hb hn => (Turn.refl (At g) w1).set_at (i := j) (.int .i64 px) |>.blk (HK1.out.keep k o hg hb) (fun e => hn (by rw [show k = g from e]; rfl))⟩
  have HPJ : Hid ((P.set j px)[j]? = some px) := (by rw [List.getElem?_set_self hj] : (P.set j px)[j]? = some px)
  clear d1 d2 d3
  generalize w1.setCell ⟨g, j, none⟩ (.int .i64 px) = w2 at *
  refine (sb_due H2.out (by have := HL.out; omega) hn HPJ.out HPN.out.1 HPN.out.2 ht0 ht1).mono ?_
  rintro e w3 ⟨rfl, h3, hk3⟩
  have H3 := Lib.hid h3
  have HK3 := Lib.hid (HK2.out.trans (Kx.ofKs hk3))
  clear h3 hk3
  go_wp2_with fail
  go_ret
  exact ⟨rfl, H3.out, HK3.out⟩
end Go.Proofs.Ytdojdhpfhjhmfaa
