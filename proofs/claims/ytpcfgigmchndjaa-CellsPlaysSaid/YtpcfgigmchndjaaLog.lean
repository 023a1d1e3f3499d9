import Derived.Test.YtpcfgigmchndjaaMem
namespace Go.Proofs.Ytpcfgigmchndjaa
open Go.RowKit Go.Maps
variable {w w' W w5 w6 : World} {base : Nat} {F : Nat → Prop} {g bc bm : Nat} {vl : Value} {cs : List ByteArray} {cl log : List Dn}
theorem MemAt.map_ne (h : MemAt w base F g bc bm vl cs cl log) {k : Nat} {xs : Array Value} {t : TypeId} {z : Nat × Nat} (hk : w.heap[k]? = some (.cells xs t z)) : bm ≠ k := by
  intro e
  obtain ⟨D', ⟨es, clock, hb, _⟩, _⟩ := h.cnt
  subst e
  rw [hb] at hk
  injection hk with hk
  cases hk
theorem MemAt.cg (h : MemAt w base F g bc bm vl cs cl log) : bc ≠ g := by
  intro e
  subst e
  have h1 := h.hd
  rw [h.cells] at h1
  injection h1 with h1
  injection h1 with _ h1
  exact absurd h1 (by decide)
theorem MemAt.stored (h : MemAt w base F g bc bm vl cs cl log) (j : Nat) (s : ByteArray) : MemAt (w.setCell ⟨bc, j, none⟩ (.string s)) base F g bc bm vl (cs.set j s) cl log := by
  have ht : Turn (At bc) w (w.setCell ⟨bc, j, none⟩ (.string s)) := (Turn.refl _ _).set_at _
  obtain ⟨D, hD, hf⟩ := h.cnt
  refine ⟨?_, ?_, ⟨D, map_turn hD ht (h.map_ne h.cells), hf⟩, own_turn h.row ht (fun k hk => own_ne h.row h.cells (by decide) k hk), h.fg, h.fc, h.fm, h.fv, fun k hk => Nat.lt_of_lt_of_le (h.lt k hk) ht.size, h.lo⟩
  · rw [List.length_set]
    exact ht.blk h.hd (fun e => h.cg (show g = bc from e).symm)
  · rw [blk_set h.cells]
    simp [List.map_set]
theorem MemAt.logged (h : MemAt w5 base F g bc bm vl cs cl log) (ht : Turn Nope w5 W) (hg : W.grownBy w6 vl.ownBlock) (d : Dn) {g1 cap1 : Nat} (ho : w6.ownsRow base 31 4 (.slice (some ⟨g1, 0, none⟩) (log.length + 1) cap1) (log.length + 1) (log.flatMap accCells ++ accCells d)) (ha : vl.ownBlock = some g1 ∨ w5.heap.size ≤ g1) (hl : g1 < w6.heap.size) {B : Nat} (hB : B ≤ w5.heap.size) (hb : base ≤ B) :
    MemAt (w6.setCell ⟨g, 2, none⟩ (.slice (some ⟨g1, 0, none⟩) (log.length + 1) cap1)) base (fun k => F k ∨ (B ≤ k ∧ k < (w6.setCell ⟨g, 2, none⟩ (.slice (some ⟨g1, 0, none⟩) (log.length + 1) cap1)).heap.size)) g bc bm (.slice (some ⟨g1, 0, none⟩) (log.length + 1) cap1) cs cl (log ++ [d]) ∧
      Turn F w5 (w6.setCell ⟨g, 2, none⟩ (.slice (some ⟨g1, 0, none⟩) (log.length + 1) cap1)) := by
  have hh : g1 < (w6.setCell ⟨g, 2, none⟩ (.slice (some ⟨g1, 0, none⟩) (log.length + 1) cap1)).heap.size := by simpa [World.setCell] using hl
  have ht6 : Turn F w5 w6 := (ht.ofNope (S := F)).grown hg (fun k hk => .inl (h.fv k hk))
  have ht7 : Turn F w5 (w6.setCell ⟨g, 2, none⟩ (.slice (some ⟨g1, 0, none⟩) (log.length + 1) cap1)) := ht6.setCell (p := ⟨g, 2, none⟩) (.inl h.fg) _
  have hd6 : w6.heap[g]? = _ := blk_grown (ht.blk h.hd id) hg (fun e => own_ne h.row h.hd (by decide) g e rfl)
  have hc6 : w6.heap[bc]? = _ := blk_grown (ht.blk h.cells id) hg (fun e => own_ne h.row h.cells (by decide) bc e rfl)
  have hts : Turn (At g) w6 (w6.setCell ⟨g, 2, none⟩ (.slice (some ⟨g1, 0, none⟩) (log.length + 1) cap1)) := (Turn.refl _ _).set_at _
  obtain ⟨D, ⟨es, clock, hm, hr⟩, hf⟩ := h.cnt
  refine ⟨⟨?_, hts.blk hc6 h.cg, ⟨D, map_turn (w := w6) ⟨es, clock, blk_grown (ht.blk hm id) hg ?_, hr⟩ hts ?_, hf⟩, ?_, .inl h.fg, .inl h.fc, .inl h.fm, ?_, ?_, ?_⟩, ht7⟩
  · rw [blk_set hd6]
    simp
  · intro e
    rcases h.row.2 with ⟨h1, _⟩ | ⟨g', cap, cur, h1, _, hh, _⟩
    · rw [h1] at e; simp [Value.ownBlock] at e
    · rw [h1] at e
      have : g' = bm := by simpa [Value.ownBlock] using e
      subst this
      rw [hm] at hh
      injection hh with hh
      cases hh
  · exact h.map_ne h.hd
  · have := own_turn ho hts (fun k hk => own_ne ho hd6 (by decide) k hk)
    simpa using this
  · intro k hk
    have hk' : g1 = k := by simpa [Value.ownBlock] using hk
    subst hk'
    rcases ha with ha | ha
    · exact .inl (h.fv _ ha)
    · right; exact ⟨Nat.le_trans hB ha, hh⟩
  · intro k hk
    rcases hk with hk | hk
    · exact Nat.lt_of_lt_of_le (h.lt k hk) ht7.size
    · exact hk.2
  · intro k hk
    rcases hk with hk | hk
    · exact h.lo k hk
    · exact Nat.le_trans hb hk.1
end Go.Proofs.Ytpcfgigmchndjaa
