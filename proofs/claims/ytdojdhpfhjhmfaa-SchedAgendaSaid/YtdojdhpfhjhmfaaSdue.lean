/- When a process steps next: the walks of due, Tick and Next. -/
import Derived.Test.YtdojdhpfhjhmfaaSb
set_option maxRecDepth 16000
set_option linter.unusedVariables false
namespace Go.Proofs.Ytdojdhpfhjhmfaa
open Go.RowKit
variable {w w' w0 : World} {s q n : Nat} {P : List Int} {t : Int} {l : List Thing} {pv : Value}
theorem num_at {base : Nat} {v : Value} (h : w.ownsRow base 3 1 v P.length (nums P)) {j : Nat} {x : Int} (hj : P[j]? = some x) : ∃ g c, v = .slice (some ⟨g, 0, none⟩) P.length c ∧ w.cell? ⟨g, j, none⟩ = some (.int .i64 x) := by
  have hlt : j < P.length := (List.getElem?_eq_some_iff.1 hj).1
  obtain ⟨g, c', e', _⟩ := World.ownsRow.form h (by omega)
  rw [e'] at h
  exact ⟨g, c', e', own_elem h j (by simp [nums, hj])⟩
def dueL (t p : Int) (who : Nat) (l : List Thing) : List Thing := if 0 < p then insR (t + p, (who : Int)) l else l
def dueN (p : Int) (n : Nat) : Nat := if 0 < p then n + 1 else n
theorem sb_tick (h : SB w0 w s q pv P t l n) : Calls Try.prog 12 #[.pointer (some ⟨s, 0, none⟩)] w fun e w' => e = .returned (.int .i64 t) ∧ w = w' := by
  have c2 := blk_cell h.hs 2
  simp only [List.getElem?_toArray, List.getElem?_cons_zero, List.getElem?_cons_succ] at c2
  clear h
  go_enter Try.func12, Try.ntmps12
  go_wp2_with fail
  go_ret
  exact ⟨rfl, rfl⟩
set_option maxHeartbeats 4000000 in
theorem sb_due (h : SB w0 w s q pv P t l n) (hl : l.length ≤ 999999) (hn : n ≤ 1000000000) {who : Nat} {p : Int} (hp : P[who]? = some p) (h0 : 0 ≤ p) (h1 : p ≤ 1048576) (ht0 : 0 ≤ t) (ht1 : t ≤ 1000000000000) :
    Calls Try.prog 28 #[.pointer (some ⟨s, 0, none⟩), .int .i64 (who : Int)] w fun e w' => e = .returned (.tuple #[]) ∧ SB w0 w' s q pv P t (dueL t p who l) (dueN p n) ∧ Ks w w' := by
  have hlt : who < P.length := (List.getElem?_eq_some_iff.1 hp).1
  obtain ⟨g, c, rfl, cg⟩ := num_at h.row hp
  have c0 := blk_cell h.hs 0
  have c1 := blk_cell h.hs 1
  have c2 := blk_cell h.hs 2
  simp only [List.getElem?_toArray, List.getElem?_cons_zero, List.getElem?_cons_succ] at c0 c1 c2
  have i0 : (0 : Int) ≤ (who : Int) := by omega
  have i1 : (who : Int) < (P.length : Int) := by omega
  have HS := Lib.hid h
  have hw : wrap64 (t + p) = t + p := IntWalk.wrap64_in _ ⟨by omega, by omega⟩
  clear h hp hlt
  by_cases hpos : 0 < p
  · have b1 : decide (p > 0) = true := by simpa using hpos
    have b1' : decide (0 < p) = true := by simpa using hpos
    have HD : Hid (dueL t p who l = insR (t + p, (who : Int)) l ∧ dueN p n = n + 1) := ⟨if_pos hpos, if_pos hpos⟩
    clear hpos
    go_enter Try.func28, Try.ntmps28
    go_wp2_with (first | (refine still_tail (id := 2) 11 (by kernel_rfl) (by kernel_rfl) ?_; simp only [List.take_succ_cons, List.take_zero, List.drop_succ_cons, List.drop_zero]; (repeat still_step); refine wpStill_nil ?_))
    refine (one_add (HS.out.nope (Turn.refl _ _).drew).one hl hn (t + p) (who : Int)).mono ?_
    rintro e w1 ⟨rfl, h1, hk⟩
    have H1 := Lib.hid ((HS.out.nope (Turn.refl _ _).drew).kp h1 hk)
    have HK := Lib.hid ((Ks.ofNope (Turn.refl _ _).drew).trans (Ks.ofKp hk))
    clear h1 hk
    go_wp2_with fail
    go_end0
    exact ⟨rfl, by rw [HD.out.1, HD.out.2]; exact H1.out, HK.out⟩
  · have b1 : decide (p > 0) = false := by simpa using hpos
    have b1' : decide (0 < p) = false := by simpa using hpos
    have HD : Hid (dueL t p who l = l ∧ dueN p n = n) := ⟨if_neg hpos, if_neg hpos⟩
    clear hpos
    go_enter Try.func28, Try.ntmps28
    go_wp2_with fail
    go_end0
    exact ⟨rfl, by rw [HD.out.1, HD.out.2]; exact HS.out, Ks.refl _⟩
end Go.Proofs.Ytdojdhpfhjhmfaa
