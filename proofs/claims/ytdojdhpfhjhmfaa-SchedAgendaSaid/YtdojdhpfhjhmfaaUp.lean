import Derived.Test.YtdojdhpfhjhmfaaSwap
import Derived.Test.YtdojdhpfhjhmfaaMeth
import Derived.Test.YtdojdhpfhjhmfaaHeap
set_option linter.unusedVariables false
namespace Go.Proofs.Ytdojdhpfhjhmfaa
open Go.RowKit Go.Proofs.HeapPlain
def d0 : It := ⟨0, 0, 0⟩
/-- A pile: its cell and its row. -/
structure Pl (w : World) (base p : Nat) (v : Value) (L : List It) : Prop where
  hp : w.heap[p]? = some (.cells #[v] 68 (0, 0))
  row : PileRow w base v L
  lo : base ≤ w.heap.size
variable {w w' : World} {base p : Nat} {v : Value} {L L' : List It}
theorem Pl.ne (h : Pl w base p v L) : ¬ OfRow v p := fun e => own_ne h.row h.hp (by decide) p e rfl
theorem Pl.turn (h : Pl w base p v L) (ht : Turn (OfRow v) w w') (hr : PileRow w' base v L') : Pl w' base p v L' := ⟨ht.blk h.hp h.ne, hr, Nat.le_trans h.lo ht.size⟩
theorem Pl.nope (h : Pl w base p v L) (ht : Turn Nope w w') : Pl w' base p v L := ⟨ht.blk h.hp fun e => e, own_nope h.row ht, Nat.le_trans h.lo ht.size⟩
theorem getD_at {l : List It} {i : Nat} (hi : i < l.length) : l[i]? = some (l.getD i d0) := by simp [hi]
theorem par_int (j : Nat) (h : 0 < j) : ((j : Int) - 1).tdiv 2 = ((par j : Nat) : Int) := by
  rw [Int.tdiv_eq_ediv_of_nonneg (by omega)]; unfold par; omega
set_option maxHeartbeats 4000000 in
theorem up_any (h : Pl w base p v L) (hn : L.length ≤ 1000000) {j : Nat} (hj : j < L.length) :
    Calls Try.prog 44 #[.iface 69 (.pointer (some ⟨p, 0, none⟩)), .int .i64 (j : Int)] w fun e w' => e = .returned (.tuple #[]) ∧ Pl w' base p v (upL itLt d0 L j) ∧ Turn (OfRow v) w w' := by
  obtain ⟨A, c, rfl, _⟩ := own_slice h.row
  have HP := Lib.hid h
  clear h
  go_enter Try.func44, Try.ntmps44
  go_wp2_with fail
  go_loopg [1, 4] L.length (fun k v1 v4 wr => ∃ (i : Nat) (M : List It), v1 = .int .i64 (i : Int) ∧ Hid (i ≤ k ∧ i < L.length ∧ M.length = L.length ∧ upL itLt d0 M i = upL itLt d0 L j ∧ Pl wr base p (.slice A L.length c) M) ∧ Turn (OfRow (.slice A L.length c)) w wr)
  case atStart => exact ⟨j, L, rfl, ⟨by omega, hj, rfl, rfl, HP.out⟩, Turn.refl _ _⟩
  case round =>
    obtain ⟨i, M, rfl, hi, ht⟩ := hrel
    obtain ⟨A', rfl⟩ : ∃ A', A' = A := ⟨A, rfl⟩
    have HT := Lib.hid ht
    clear ht
    have hil := hi.out.2.1
    have hMl := hi.out.2.2.1
    have hw1 : wrap64 ((i : Int) - 1) = (i : Int) - 1 := IntWalk.wrap64_in _ ⟨by omega, by omega⟩
    by_cases h0 : i = 0
    · subst h0
      go_wp2_with fail
      go_end0
      exact ⟨rfl, by have := hi.out; rw [← this.2.2.2.1, upL]; simp; exact this.2.2.2.2, HT.out⟩
    · have hp1 := par_int i (by omega)
      have hpl : par i < i := by unfold par; omega
      have hw2 : wrap64 (((par i : Nat) : Int)) = ((par i : Nat) : Int) := IntWalk.wrap64_in _ ⟨by omega, by omega⟩
      generalize hq : par i = q at hp1 hpl hw2
      have t1 : ((q : Int) == (i : Int)) = false := by simp; omega
      have cp := blk_cell hi.out.2.2.2.2.hp 0
      simp only [List.getElem?_toArray, List.getElem?_cons_zero] at cp
      have mL := m_less cp
      have cL := less_any (hi.out.2.2.2.2.row) (getD_at (l := M) (i := i) (by omega)) (getD_at (l := M) (i := q) (by omega)) (by omega)
      clear cp
      by_cases h1 : itLt (M.getD i d0) (M.getD q d0)
      · have e1 : (decide (itLt (M.getD i d0) (M.getD q d0))) = true := by simpa using h1
        rw [e1] at cL
        go_wp2_with (first
          | (go_at_call 81; refine cL.mono ?_; rintro e w' ⟨rfl, ht2⟩
             have HP2 := Lib.hid (hi.out.2.2.2.2.nope ht2)
             have HT2 := Lib.hid ht2
             clear ht2
             have cp2 := blk_cell HP2.out.hp 0
             simp only [List.getElem?_toArray, List.getElem?_cons_zero] at cp2
             have mS := m_swap cp2
             have cS := swap_any HP2.out.row (getD_at (l := M) (i := q) (by omega)) (getD_at (l := M) (i := i) (by omega)) (by omega)
             clear cp2)
          | (go_at_call 82; refine cS.mono ?_; rintro e w'' ⟨rfl, hr3, ht3⟩
             have HP3 := Lib.hid (HP2.out.turn ht3 hr3)
             have HT3 := Lib.hid ht3
             clear ht3 hr3))
        go_roundg q
        case measure => have := hi.out; omega
        case rel =>
          refine ⟨q, (M.set q (M.getD i d0)).set i (M.getD q d0), rfl, ⟨Nat.le_refl _, by omega, by simpa using hMl, ?_, ?_⟩, ?_⟩
          · rw [← hi.out.2.2.2.1]
            conv => rhs; rw [upL]
            simp only [h0, dif_neg, not_false_iff]
            rw [hq, if_pos h1]
            rfl
          · exact HP3.out
          · exact (HT.out.trans (HT2.out.mono fun _ h => h.elim)).trans HT3.out
      · have e1 : (decide (itLt (M.getD i d0) (M.getD q d0))) = false := by simpa using h1
        rw [e1] at cL
        go_wp2_with (go_at_call 81; refine cL.mono ?_; rintro e w' ⟨rfl, ht2⟩
                     have HP2 := Lib.hid (hi.out.2.2.2.2.nope ht2)
                     have HT2 := Lib.hid ht2
                     clear ht2)
        go_end0
        refine ⟨rfl, ?_, HT.out.trans (HT2.out.mono fun _ h => h.elim)⟩
        rw [← hi.out.2.2.2.1, upL]
        simp only [h0, dif_neg, not_false_iff]
        rw [hq, if_neg h1]
        exact HP2.out
end Go.Proofs.Ytdojdhpfhjhmfaa
