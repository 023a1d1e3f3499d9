import Derived.Test.YtdojdhpfhjhmfaaQueue
set_option linter.unusedVariables false
set_option maxRecDepth 16000
namespace Go.Proofs.Ytdojdhpfhjhmfaa
open Go.RowKit Go.Proofs.HeapPlain
variable {w w' : World} {F G : Nat → Prop} {q n : Nat} {S S' : List It}
/-- What is at the place. -/
theorem QAt.at_ {p : Nat} {v : Value} {L : List It} (h : QAt w F q p v L S n) {i : Nat} (hi : i < L.length) : ∃ g c, v = .slice (some ⟨g, 0, none⟩) L.length c ∧ w.cell? ⟨g, i * 3 + 1, none⟩ = some (.int .i64 (L.getD i d0).who) := by
  obtain ⟨g, c, hv, _, a1, _⟩ := h.pl.row.cells (getD_at hi)
  exact ⟨g, c, hv, a1⟩
set_option maxHeartbeats 4000000 in
theorem qdrop (h : Qs w F q S n) (hl : S.length ≤ 1000) (who : Int) :
    Calls Try.prog 32 #[.pointer (some ⟨q, 0, none⟩), .int .i64 who] w fun e w' => e = .returned (.int .i64 ((S.length : Int) - (notOf who S).length)) ∧ (∃ F', Qs w' F' q (notOf who S) n ∧ ∀ k, F' k → F k) ∧ Turn F w w' := by
  obtain ⟨p, v, L, h⟩ := h
  have HA := Lib.hid h
  clear h
  go_enter Try.func32, Try.ntmps32
  go_wp2_with fail
  go_loopg [5, 6] (S.length * (S.length + 2) + (S.length + 1)) (fun m v5 v6 wr => ∃ (k i : Nat) (p : Nat) (v : Value) (L S' : List It) (F' : Nat → Prop), v5 = .int .i64 (k : Int) ∧ v6 = .int .i64 (i : Int) ∧ Hid (S'.length * (S.length + 2) + (S.length + 1 - i) ≤ m ∧ i ≤ L.length ∧ k + S'.length = S.length ∧ notOf who S' = notOf who S ∧ (∀ j, j < i → (L.getD j d0).who ≠ who) ∧ QAt wr F' q p v L S' n ∧ (∀ x, F' x → F x) ∧ Turn F w wr))
  case atStart => exact ⟨0, 0, p, v, L, S, F, rfl, rfl, ⟨by omega, Nat.zero_le _, by omega, rfl, fun j hj => absurd hj (Nat.not_lt_zero j), HA.out, fun _ h => h, Turn.refl _ _⟩⟩
  case round =>
    obtain ⟨k, i, p, v, L, S', F', rfl, rfl, hi⟩ := hrel
    clear HA
    have HB := Lib.hid hi.out.2.2.2.2.2.1
    have hLS := HB.out.ord.len
    have hks := hi.out.2.2.1
    have hiL := hi.out.2.1
    have c0 := blk_cell HB.out.hq 0
    have cp := blk_cell HB.out.pl.hp 0
    simp only [List.getElem?_toArray, List.getElem?_cons_zero] at c0 cp
    have hw1 : wrap64 ((i : Int) + 1) = (i : Int) + 1 := IntWalk.wrap64_in _ ⟨by omega, by omega⟩
    have hw2 : wrap64 ((k : Int) + 1) = (k : Int) + 1 := IntWalk.wrap64_in _ ⟨by omega, by omega⟩
    have HQ0 : Hid (Qs wr F' q S' n) := ⟨p, v, L, HB.out⟩
    by_cases hlt : i < S'.length
    · have b1 : decide ((i : Int) < (S'.length : Int)) = true := by simp; omega
      have b1n : decide (i < S'.length) = true := by simp; omega
      have hi1 : i < L.length := by omega
      obtain ⟨g, c, rfl, a1⟩ := HB.out.at_ hi1
      obtain ⟨x, hx⟩ : ∃ x, L.getD i d0 = x := ⟨_, rfl⟩
      rw [hx] at a1
      have HX0 := Lib.hid hx
      clear hx
      have i0 : (0 : Int) ≤ (i : Int) := by omega
      have i1 : (i : Int) < (L.length : Int) := by omega
      have HLS := Lib.hid hLS
      clear hLS
      by_cases hw : x.who = who
      · have t1 : (x.who != who) = false := by simpa using hw
        have HW := Lib.hid hw
        obtain ⟨N, hN⟩ : ∃ N, L.length = N + 1 := ⟨L.length - 1, by omega⟩
        have HN := Lib.hid hN
        clear hw hN
        go_wp2_with (first
          | (go_at_call 14; refine (qlen HQ0.out).mono ?_; rintro e w' ⟨rfl, rfl⟩)
          | (go_at_call 39; refine (hremove HB.out.pl (by rw [HLS.out]; omega) (i := i) HN.out (by have := HN.out; omega)).mono ?_; rintro e w2 ⟨⟨u, rfl⟩, ⟨v2, h2, hf2⟩, ht2⟩; have HP2 := Lib.hid h2; have HF2 := Lib.hid hf2; have HT2 := Lib.hid ht2; clear h2 hf2 ht2))
        obtain ⟨S2, hH, hS2, hl2⟩ := HB.out.ord.outOf hi1 (who := who) (by rw [HX0.out]; exact HW.out)
        have HX : Hid (HQ (outL itLt d0 L i) S2 n ∧ notOf who S2 = notOf who S' ∧ S'.length = S2.length + 1) := ⟨hH, hS2, hl2⟩
        clear hH hS2 hl2
        go_roundg (S2.length * (S.length + 2) + (S.length + 1))
        case measure =>
          have h1 := hi.out.1
          rw [HX.out.2.2, Nat.add_mul, Nat.one_mul] at h1
          generalize S2.length * (S.length + 2) = z at *
          omega
        case rel =>
          refine ⟨k + 1, 0, p, v2, _, S2, fun k => k = q ∨ FP p v2 k, by go_num, rfl, ⟨by omega, Nat.zero_le _, by have := HX.out.2.2; omega, HX.out.2.1.trans hi.out.2.2.2.1, fun j hj => absurd hj (Nat.not_lt_zero j), ⟨HT2.out.blk HB.out.hq HB.out.qp, HP2.out, HX.out.1, fun k => Iff.rfl⟩, fun x hx => ?_, hi.out.2.2.2.2.2.2.2.trans (HT2.out.mono fun x hx => hi.out.2.2.2.2.2.2.1 x ((HB.out.foot x).2 (.inr hx)))⟩⟩
          refine hi.out.2.2.2.2.2.2.1 x ((HB.out.foot x).2 ?_)
          rcases hx with hx | hx
          · exact .inl hx
          · exact .inr (HF2.out x hx)
      · have t1 : (x.who != who) = true := by simpa using hw
        have HW := Lib.hid hw
        clear hw
        go_wp2_with (first
          | (go_at_call 14; refine (qlen HQ0.out).mono ?_; rintro e w' ⟨rfl, rfl⟩))
        go_roundg (S'.length * (S.length + 2) + (S.length + 1 - (i + 1)))
        case measure =>
          have h1 := hi.out.1
          generalize S'.length * (S.length + 2) = z at *
          omega
        case rel =>
          refine ⟨k, i + 1, p, _, L, S', F', rfl, by go_num, ⟨Nat.le_refl _, hi1, hks, hi.out.2.2.2.1, fun j hj => ?_, hi.out.2.2.2.2.2⟩⟩
          by_cases e : j = i
          · rw [e, HX0.out]; exact HW.out
          · exact hi.out.2.2.2.2.1 j (by omega)
    · have b1 : decide ((i : Int) < (S'.length : Int)) = false := by simp; omega
      have b1n : decide (i < S'.length) = false := by simp; omega
      have HS : Hid (S' = notOf who S) := by
        show _ = _
        rw [← hi.out.2.2.2.1]
        exact (HB.out.ord.done fun j hj => hi.out.2.2.2.2.1 j (by omega)).symm
      go_wp2_with (go_at_call 14; refine (qlen HQ0.out).mono ?_; rintro e w' ⟨rfl, rfl⟩)
      go_ret
      have hk : (k : Int) = (S.length : Int) - (notOf who S).length := by rw [← HS.out]; omega
      refine ⟨by rw [← hk]; rfl, ⟨F', ?_, hi.out.2.2.2.2.2.2.1⟩, hi.out.2.2.2.2.2.2.2⟩
      rw [← HS.out]
      exact HQ0.out
end Go.Proofs.Ytdojdhpfhjhmfaa
