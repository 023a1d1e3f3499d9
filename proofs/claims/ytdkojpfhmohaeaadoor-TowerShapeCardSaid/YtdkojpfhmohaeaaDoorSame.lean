/- same and has of the laws on towers: the walks. -/
import Derived.Test.YtdkojpfhmohaeaaDoorArgs
import Derived.Test.YtdkojpfhmohaeaaDoorTILaw2
import Derived.Deep.QuietTactic
import Derived.BigQuiet
set_option linter.unusedVariables false
namespace Go.Proofs.YtdkojpfhmohaeaaDoor
open Go.RowKit TI
theorem row_at {w : World} {base c : Nat} {A : Option Addr} {D : List Int} (h : w.ownsRow base 3 1 (.slice A D.length c) D.length (atsV D)) {j : Nat} {x : Int} (hj : D[j]? = some x) : ∃ g, A = some ⟨g, 0, none⟩ ∧ w.cell? ⟨g, j, none⟩ = some (.int .i64 x) := by
  have hlt : j < D.length := (List.getElem?_eq_some_iff.1 hj).1
  obtain ⟨g, c', e', _⟩ := World.ownsRow.form h (by omega)
  rw [e'] at h
  injection e' with e1 _ _
  exact ⟨g, e1, own_elem h j (by simp [atsV, hj])⟩
set_option maxHeartbeats 4000000 in
theorem same_any {w : World} {b1 b2 : Nat} {v1 v2 : Value} {D : List Int} (h1 : w.ownsRow b1 3 1 v1 D.length (atsV D)) (h2 : w.ownsRow b2 3 1 v2 D.length (atsV D)) (hl : D.length ≤ 1000000) :
    Calls Tryd.prog 19 #[v1, v2] w fun e w' => e = .returned (.bool true) ∧ Turn Nope w w' := by
  obtain ⟨A1, c1, rfl, _⟩ := own_slice h1
  obtain ⟨A2, c2, rfl, _⟩ := own_slice h2
  have H1 := Lib.hid h1
  have H2 := Lib.hid h2
  clear h1 h2
  have q1 : ((D.length : Int) != (D.length : Int)) = false := by simp
  go_enter Tryd.func19, Tryd.ntmps19
  go_wp2_with fail
  go_loopg [5, 13] D.length (fun k v5 v13 wr => ∃ (i : Nat), v13 = .int .i64 (i : Int) ∧ Hid (k + i = D.length ∧ Turn Nope w wr))
  case atStart => exact ⟨0, rfl, rfl, Turn.refl _ _⟩
  case round =>
    obtain ⟨i, rfl, hi⟩ := hrel
    have hik := hi.out.1
    by_cases hlt : i < D.length
    · obtain ⟨x, hx⟩ : ∃ x, D[i]? = some x := ⟨D[i], List.getElem?_eq_getElem hlt⟩
      obtain ⟨g1, rfl, e1⟩ := row_at (own_nope H1.out hi.out.2) hx
      obtain ⟨g2, rfl, e2⟩ := row_at (own_nope H2.out hi.out.2) hx
      have b1 : decide ((i : Int) < (D.length : Int)) = true := by simp; omega
      have b1n : decide (i < D.length) = true := by simp; omega
      have i0 : (0 : Int) ≤ (i : Int) := by omega
      have i1 : (i : Int) < (D.length : Int) := by omega
      have hw : wrap64 ((i : Int) + 1) = (i : Int) + 1 := IntWalk.wrap64_in _ ⟨by omega, by omega⟩
      have q2 : (x != x) = false := by simp
      clear hx
      go_wp2_with (first | (go_quiet (fail)))
      go_roundg (D.length - (i + 1))
      case measure => omega
      case rel => exact ⟨i + 1, by go_num, by omega, hi.out.2.trans (by repeat (first | exact Turn.refl _ _ | apply Turn.drewN | apply Turn.drew))⟩
    · obtain rfl : i = D.length := by omega
      have b1 : decide ((D.length : Int) < (D.length : Int)) = false := by simp
      go_wp2_with fail
      go_ret
      exact ⟨rfl, hi.out.2⟩
/-- Is a number among the first n? -/
def hasN (ls : Nat → Int) (n : Nat) (x : Int) : Bool := (List.range n).any fun i => ls i == x
theorem hasN_iff {ls : Nat → Int} {n : Nat} {x : Int} : hasN ls n x = true ↔ ∃ i, i < n ∧ ls i = x := by
  unfold hasN
  rw [List.any_eq_true]
  constructor
  · rintro ⟨i, hi, h⟩; exact ⟨i, List.mem_range.1 hi, by simpa using h⟩
  · rintro ⟨i, hi, h⟩; exact ⟨i, List.mem_range.2 hi, by simpa using h⟩
set_option maxHeartbeats 4000000 in
theorem has_any {w : World} {a : Option Addr} {len n cap : Nat} {ls : Nat → Int} (h : IntsAt w a len ls) (hn : n ≤ len) (h40 : n ≤ 1000000) (x : Int) :
    Calls Tryd.prog 17 #[.slice a n cap, .int .i64 x] w fun e w' => e = .returned (.bool (hasN ls n x)) ∧ w = w' := by
  have H := Lib.hid h
  clear h
  obtain ⟨R, hR⟩ : ∃ R, hasN ls n x = R := ⟨_, rfl⟩
  rw [hR]
  have HR := Lib.hid hR
  clear hR
  go_enter Tryd.func17, Tryd.ntmps17
  go_wp2_with fail
  go_loopg [6, 9] n (fun k v6 v9 wr => ∃ (i : Nat), v9 = .int .i64 (i : Int) ∧ Hid (k + i = n ∧ (∀ j, j < i → ls j ≠ x)) ∧ Hid (w = wr))
  case atStart => exact ⟨0, rfl, ⟨rfl, fun j hj => absurd hj (Nat.not_lt_zero j)⟩, rfl⟩
  case round =>
    obtain ⟨i, rfl, hi, hw0⟩ := hrel
    have hik := hi.out.1
    by_cases hlt : i < n
    · obtain ⟨_, ad, rfl, c0⟩ := H.out.2 i (by omega)
      have c0 : wr.cell? (ad.add i) = some (.int .i64 (ls i)) := by rw [← hw0.out]; exact c0
      have b1 : decide ((i : Int) < (n : Int)) = true := by simp; omega
      have b1n : decide (i < n) = true := by simp; omega
      have i0 : (0 : Int) ≤ (i : Int) := by omega
      have i1 : (i : Int) < (n : Int) := by omega
      have hw : wrap64 ((i : Int) + 1) = (i : Int) + 1 := IntWalk.wrap64_in _ ⟨by omega, by omega⟩
      by_cases he : ls i = x
      · have q1 : (ls i == x) = true := by simpa using he
        have HT : Hid (R = true) := by show _ = _; rw [← HR.out, hasN_iff]; exact ⟨i, hlt, he⟩
        clear he
        go_wp2_with fail
        go_ret
        exact ⟨by rw [HT.out]; rfl, hw0.out⟩
      · have q1 : (ls i == x) = false := by simpa using he
        have HE := Lib.hid he
        clear he
        go_wp2_with fail
        go_roundg (n - (i + 1))
        case measure => omega
        case rel =>
          refine ⟨i + 1, by go_num, ⟨by omega, fun j hj => ?_⟩, hw0⟩
          by_cases e : j = i
          · subst e; exact HE.out
          · exact hi.out.2 j (by omega)
    · obtain rfl : i = n := by omega
      have b1 : decide ((i : Int) < (i : Int)) = false := by simp
      have HF : Hid (R = false) := by
        show _ = _
        rw [← HR.out, Bool.eq_false_iff]
        intro e
        obtain ⟨j, hj, h2⟩ := hasN_iff.1 e
        exact hi.out.2 j hj h2
      go_wp2_with fail
      go_ret
      exact ⟨by rw [HF.out]; rfl, hw0.out⟩
end Go.Proofs.YtdkojpfhmohaeaaDoor
