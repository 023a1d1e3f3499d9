import Derived.Test.YtdojdhpfhjhmfaaPpush
set_option linter.unusedVariables false
namespace Go.Proofs.Ytdojdhpfhjhmfaa
open Go.RowKit Go.Proofs.HeapPlain
variable {w w' : World} {base p : Nat} {v : Value} {L L' : List It}
theorem flat_len : ∀ L : List It, (L.flatMap itCells).length = L.length * 3
  | [] => rfl
  | x :: L => by rw [List.flatMap_cons, List.length_append, flat_len L]; simp [itCells]; omega
theorem flat_take (L : List It) : ∀ n, (L.take n).flatMap itCells = (L.flatMap itCells).take (n * 3) := by
  induction L with
  | nil => intro n; simp
  | cons x L ih =>
    intro n
    cases n with
    | zero => simp
    | succ n =>
      rw [List.take_succ_cons, List.flatMap_cons, List.flatMap_cons, ih n, show (n + 1) * 3 = 3 + n * 3 by omega, List.take_append]
      have e : List.take (3 + n * 3) (itCells x) = itCells x := List.take_of_length_le (by simp [itCells])
      rw [e]
      simp [itCells]
theorem pop_row {q c n : Nat} (h : PileRow w base (.slice (some ⟨q, 0, none⟩) (n + 1) c) L) (hl : L.length = n + 1) : PileRow w base (.slice (some ⟨q, 0, none⟩) n c) (L.take n) := by
  obtain ⟨h1, h2⟩ := h
  have e : (L.take n).length = n := by rw [List.length_take]; omega
  refine ⟨by rw [flat_len], .inr ?_⟩
  rcases h2 with ⟨h2, _⟩ | ⟨g, cap, cur, h2, h3, h4, h5, h6, h7, h8⟩
  · cases h2
  · refine ⟨g, cap, cur, ?_, h3, h4, by omega, h6, h7, ?_⟩
    · rw [e]
      injection h2 with a b d
      rw [a, d]
    · rw [e, flat_take, ← h8, hl, List.take_take, Nat.min_eq_left (by omega)]
set_option maxRecDepth 8000 in
set_option maxHeartbeats 4000000 in
theorem ppop (h : Pl w base p v L) (hn : L.length ≤ 1000001) {n : Nat} (hl : L.length = n + 1) :
    Calls Try.prog 83 #[.pointer (some ⟨p, 0, none⟩)] w fun e w' => e = .returned (.iface 84 (itV (L.getD n d0))) ∧ (∃ v', Pl w' base p v' (L.take n) ∧ ∀ k, FP p v' k → FP p v k) ∧ Turn (FP p v) w w' := by
  have hx : L[n]? = some (L.getD n d0) := getD_at (by omega)
  generalize L.getD n d0 = x at *
  obtain ⟨q, c, rfl, a0, a1, a2⟩ := h.row.cells hx
  have HX := Lib.hid hx
  clear hx
  have hnc : n + 1 ≤ c := by obtain ⟨A, c', e, hc⟩ := own_slice h.row; injection e with _ _ e3; omega
  have HP := Lib.hid h
  clear h
  have HL := Lib.hid hl
  rw [hl] at hn HP ⊢
  clear hl
  have hp0 := blk_cell HP.out.hp 0
  simp only [List.getElem?_toArray, List.getElem?_cons_zero] at hp0
  have hpf := blk_frozen HP.out.hp 0
  have hpl := blk_lt HP.out.hp
  have hql : q < w.heap.size := World.block_lt_of_cell? w _ a0
  have e0 : ((n : Int) + 1) - 1 = (n : Int) := by omega
  have n0 : (0 : Int) ≤ (n : Int) := by omega
  go_enter Try.func83, Try.ntmps83
  go_wp2_with fail
  go_ret
  have HP1 : Hid (Turn (FP p (.slice (some ⟨q, 0, none⟩) (n + 1) c)) w (w.setCell ⟨p, 0, none⟩ (.slice (some ⟨q, 0, none⟩) n c))) := Turn.setCell (p := ⟨p, 0, none⟩) (Turn.refl _ _) (.inl (.inl rfl)) _
  refine ⟨rfl, ⟨_, Pl.nope ⟨blk_set HP.out.hp 0 _, pop_row (own_turn HP.out.row (S := At p) ((Turn.refl _ _).set_at _) fun k hk hk' => HP.out.ne (by rw [← hk']; exact hk)) HL.out, Nat.le_trans HP.out.lo HP1.out.size⟩ ((Turn.refl _ _).alloc _), fun k hk => hk⟩, HP1.out.alloc _⟩
end Go.Proofs.Ytdojdhpfhjhmfaa
