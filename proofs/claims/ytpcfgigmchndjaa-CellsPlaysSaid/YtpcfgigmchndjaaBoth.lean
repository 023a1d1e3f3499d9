import Derived.Test.YtpcfgigmchndjaaRef
namespace Go.Proofs.Ytpcfgigmchndjaa
open PCellsPlays Go.RowKit Go.Proofs.YtpcfgigmchndjaaW.PrintWords Go.Proofs.YtpcfgigmchndjaaW.PrintLast Go.Proofs.YtpcfgigmchndjaaW.PrintMore
/-- A Memory and a list of what was done, apart from each other, their blocks in G. -/
structure MemL (w0 : World) (G : Nat → Prop) (n g : Nat) (vl : Value) (ml ll : List Dn) (w : World) : Prop where
  parts : ∃ F P cs, MemIs w w0.heap.size F g cs ml ∧ Good n cs ml ∧ Kd.R k56 56 w w0.heap.size P vl (ll.map toS) ∧ (∀ k, P k → ¬ F k) ∧ (∀ k, F k ∨ P k → G k) ∧ ∀ k, P k → w0.heap.size ≤ k ∧ k < w.heap.size
  turn : Turn Nope w0 w
  lo : ∀ k, G k → w0.heap.size ≤ k
variable {w0 w w' : World} {G : Nat → Prop} {n g : Nat} {vl : Value} {ml ll : List Dn}
theorem R_turn {base : Nat} {P S : Nat → Prop} {xs : List S56} (h : Kd.R k56 56 w base P vl xs) (ht : Turn S w w') (hS : ∀ k, P k → ¬ S k) : Kd.R k56 56 w' base P vl xs :=
  Kd.R_step h (fun k hk hlt => ht.block k hlt (hS k hk))
theorem MemL.nope (h : MemL w0 G n g vl ml ll w) (ht : Turn Nope w w') : MemL w0 G n g vl ml ll w' := by
  obtain ⟨F, P, cs, h1, h2, h3, h4, h5, h6⟩ := h.parts
  exact ⟨⟨F, P, cs, h1.nope ht, h2, R_turn h3 ht (fun _ _ h => h), h4, h5, fun k hk => ⟨(h6 k hk).1, Nat.lt_of_lt_of_le (h6 k hk).2 ht.size⟩⟩, h.turn.trans ht, h.lo⟩
/-- What an access answers and leaves. -/
def accD (n : Nat) (log : List Dn) (who k c : Int) (o nw : ByteArray) : List Dn × ByteArray × Bool × Int :=
  if c < 0 ∨ (n : Int) ≤ c then (log, ⟨#[]⟩, false, 6) else if k < 1 ∨ 3 < k then (log, ⟨#[]⟩, false, 5)
  else (log ++ [⟨who, k, c, o, nw, doIs k (refHolds log c) o⟩], refHolds log c, doIs k (refHolds log c) o, 0)
theorem accD_length (n : Nat) (log : List Dn) (who k c : Int) (o nw : ByteArray) : (accD n log who k c o nw).1.length ≤ log.length + 1 := by
  unfold accD
  split
  · simp
  · split <;> simp
theorem meml_do (w : World) (h : MemL w0 G n g vl ml ll w) (hl : ml.length ≤ 1000) (who k c : Int) (hw : (Lit.int .i64 who).wf = true) (o nw : ByteArray) :
    Calls Try.prog 10 #[.pointer (some ⟨g, 0, none⟩), .int .i64 who, accV k c o nw] w fun e w' => e = .returned (.tuple #[.string (accD n ml who k c o nw).2.1, .bool (accD n ml who k c o nw).2.2.1, .int .i64 (accD n ml who k c o nw).2.2.2]) ∧
      (∃ G' : Nat → Prop, MemL w0 G' n g vl (accD n ml who k c o nw).1 ll w' ∧ ∀ k, G' k → G k ∨ w.heap.size ≤ k) ∧ Turn G w w' := by
  obtain ⟨F, P, cs, h1, h2, h3, h4, h5, h6⟩ := h.parts
  by_cases hc : c < 0 ∨ (n : Int) ≤ c
  · rw [show accD n ml who k c o nw = (ml, ⟨#[]⟩, false, 6) from if_pos hc]
    refine (do_out w h1 who k c o nw (by rw [h2.len]; exact hc)).mono ?_
    rintro e w' ⟨rfl, ht⟩
    exact ⟨rfl, ⟨G, h.nope ht, fun _ hk => .inl hk⟩, ht.ofNope⟩
  · obtain ⟨j, rfl⟩ : ∃ j : Nat, c = j := ⟨c.toNat, by omega⟩
    have hj : j < n := by omega
    by_cases hk : k < 1 ∨ 3 < k
    · rw [show accD n ml who k j o nw = (ml, ⟨#[]⟩, false, 5) from (if_neg hc).trans (if_pos hk)]
      refine (do_kind w h1 who k j (by rw [h2.len]; exact hj) o nw hk).mono ?_
      rintro e w' ⟨rfl, ht⟩
      exact ⟨rfl, ⟨G, h.nope ht, fun _ hk => .inl hk⟩, ht.ofNope⟩
    · rw [show accD n ml who k j o nw = _ from (if_neg hc).trans (if_neg hk)]
      refine (do_ok w h1 hl who k (by omega) hw j _ (h2.at_ j hj) o nw).mono ?_
      rintro e w' ⟨rfl, ⟨F', hF, hF'⟩, ht⟩
      refine ⟨rfl, ⟨fun x => F' x ∨ P x, ⟨⟨F', P, _, hF, h2.step who k (by omega) j hj o nw, R_turn h3 ht h4, fun x hP hx => ?_, fun x hx => hx, fun x hx => ⟨(h6 x hx).1, Nat.lt_of_lt_of_le (h6 x hx).2 ht.size⟩⟩, h.turn.then ht (fun x hx => .inr (h1.lo x hx)), fun x hx => ?_⟩, fun x hx => ?_⟩, ht.mono (fun x hx => h5 x (.inl hx))⟩
      · have := (h6 x hP).2
        rcases hF' x hx with h7 | h7
        · exact h4 x hP h7
        · omega
      · rcases hx with hx | hx
        · exact hF.lo x hx
        · exact (h6 x hx).1
      · rcases hx with hx | hx
        · rcases hF' x hx with h7 | h7
          · exact .inl (h5 x (.inl h7))
          · exact .inr h7
        · exact .inl (h5 x (.inr hx))
theorem ref_eq (n : Nat) (log : List Dn) (hl : log.length ≤ 1000) (who k c : Int) (o nw : ByteArray) : hindsightref15_Do.f 2000 (log.map toS) n who k c o nw = some ((accD n log who k c o nw).1.map toS, (accD n log who k c o nw).2.1, (accD n log who k c o nw).2.2.1, (accD n log who k c o nw).2.2.2) := by
  by_cases hc : c < 0 ∨ (n : Int) ≤ c
  · rw [show accD n log who k c o nw = (log, ⟨#[]⟩, false, 6) from if_pos hc]
    exact do_f_out log n who k c o nw hc
  · by_cases hk : k < 1 ∨ 3 < k
    · rw [show accD n log who k c o nw = (log, ⟨#[]⟩, false, 5) from (if_neg hc).trans (if_pos hk)]
      exact do_f_kind log n who k c o nw (by omega) (by omega) hk
    · rw [show accD n log who k c o nw = _ from (if_neg hc).trans (if_neg hk)]
      exact do_f_ok log hl n who k c o nw (by omega) (by omega) (by omega)
theorem meml_ref (w : World) (h : MemL w0 G n g vl ml ll w) (hl : ll.length ≤ 1000) (who k c : Int) (o nw : ByteArray) :
    Calls Try.prog 17 #[vl, .int .i64 (n : Int), .int .i64 who, accV k c o nw] w fun e w' => ∃ vl', e = .returned (.tuple #[vl', .string (accD n ll who k c o nw).2.1, .bool (accD n ll who k c o nw).2.2.1, .int .i64 (accD n ll who k c o nw).2.2.2]) ∧
      (∃ G' : Nat → Prop, MemL w0 G' n g vl' ml (accD n ll who k c o nw).1 w' ∧ ∀ k, G' k → G k ∨ w.heap.size ≤ k) ∧ Turn G w w' := by
  obtain ⟨F, P, cs, h1, h2, h3, h4, h5, h6⟩ := h.parts
  refine (hindsightref15_Do.calls 2000 P vl (ll.map toS) n who k c o nw _ _ _ _ w0 w h.turn.nopeBelow h3 (ref_eq n ll hl who k c o nw)).mono ?_
  rintro e w' ⟨vl', rfl, hR, hB, hK⟩
  have ht : Turn P w w' := ⟨hB.os.trans h.turn.os.symm, hB.tape.trans h.turn.tape.symm, hB.output.trans h.turn.output.symm, hK.1, hK.2⟩
  have hRb := Kd.R_bound hR
  refine ⟨vl', rfl, ⟨fun x => F x ∨ ((P x ∨ w.heap.size ≤ x) ∧ w0.heap.size ≤ x ∧ x < w'.heap.size), ⟨⟨F, _, cs, h1.turn ht h4, h2, Kd.R_mono hRb (fun x hx => (⟨hx.1, hx.2.1, hx.2.2.1⟩ : (P x ∨ w.heap.size ≤ x) ∧ w0.heap.size ≤ x ∧ x < w'.heap.size)), fun x hx hF => ?_, fun x hx => hx, fun x hx => hx.2⟩, h.turn.then ht (fun x hx => .inr (h6 x hx).1), fun x hx => ?_⟩, fun x hx => ?_⟩, ht.mono (fun x hx => h5 x (.inr hx))⟩
  · have := h1.lt x hF
    rcases hx.1 with h7 | h7
    · exact h4 x h7 hF
    · omega
  · rcases hx with hx | hx
    · exact h1.lo x hx
    · exact hx.2.1
  · rcases hx with hx | ⟨hx | hx, _⟩
    · exact .inl (h5 x (.inl hx))
    · exact .inl (h5 x (.inr hx))
    · exact .inr hx
theorem MemL.vlen (h : MemL w0 G n g vl ml ll w) : ∃ A c, vl = .slice A ll.length c := by
  obtain ⟨F, P, cs, h1, h2, h3, h4, h5, h6⟩ := h.parts
  obtain ⟨A, c, e⟩ := Kd.R_slice h3
  rw [List.length_map] at e
  exact ⟨A, c, e⟩
theorem meml_count (w : World) (h : MemL w0 G n g vl ml ll w) (x : Int) (hx : (Lit.int .i64 x).wf = true) : Calls Try.prog 11 #[.pointer (some ⟨g, 0, none⟩), .int .i64 x] w fun e w' => e = .returned (.int .i64 (cntOf ml x)) ∧ MemL w0 G n g vl ml ll w' := by
  obtain ⟨F, P, cs, h1, h2, h3, h4, h5, h6⟩ := h.parts
  refine (count_any w h1 x hx).mono ?_
  rintro e w' ⟨rfl, rfl⟩
  exact ⟨rfl, h⟩
theorem meml_all (w : World) (h : MemL w0 G n g vl ml ll w) : Calls Try.prog 12 #[.pointer (some ⟨g, 0, none⟩)] w fun e w' => e = .returned (.int .i64 ml.length) ∧ MemL w0 G n g vl ml ll w' := by
  obtain ⟨F, P, cs, h1, h2, h3, h4, h5, h6⟩ := h.parts
  refine (all_any w h1).mono ?_
  rintro e w' ⟨rfl, rfl⟩
  exact ⟨rfl, h⟩
theorem meml_look (w : World) (h : MemL w0 G n g vl ml ll w) (c : Int) : Calls Try.prog 15 #[.pointer (some ⟨g, 0, none⟩), .int .i64 c] w fun e w' => e = .returned (.string (refHolds ml c)) ∧ MemL w0 G n g vl ml ll w' := by
  obtain ⟨F, P, cs, h1, h2, h3, h4, h5, h6⟩ := h.parts
  by_cases hc : c < 0 ∨ (n : Int) ≤ c
  · rw [h2.out c hc]
    refine (look_out w h1 c (by rw [h2.len]; exact hc)).mono ?_
    rintro e w' ⟨rfl, ht⟩
    exact ⟨rfl, h.nope ht⟩
  · obtain ⟨j, rfl⟩ : ∃ j : Nat, c = j := ⟨c.toNat, by omega⟩
    refine (look_in w h1 j _ (h2.at_ j (by omega))).mono ?_
    rintro e w' ⟨rfl, ht⟩
    exact ⟨rfl, h.nope ht⟩
theorem meml_swaps (w : World) (h : MemL w0 G n g vl ml ll w) (hl : ml.length ≤ 1000) (c : Int) : Calls Try.prog 16 #[.pointer (some ⟨g, 0, none⟩), .int .i64 c] w fun e w' => e = .returned (.int .i64 (refSwaps ml c)) ∧ MemL w0 G n g vl ml ll w' := by
  obtain ⟨F, P, cs, h1, h2, h3, h4, h5, h6⟩ := h.parts
  refine (swaps_any w h1 hl c).mono ?_
  rintro e w' ⟨rfl, ht⟩
  rw [h2.sw c]
  exact ⟨rfl, h.nope ht⟩
theorem meml_rcount (w : World) (h : MemL w0 G n g vl ml ll w) (hl : ll.length ≤ 1000) (x : Int) : Calls Try.prog 18 #[vl, .int .i64 x] w fun e w' => e = .returned (.int .i64 (cntOf ll x)) ∧ MemL w0 G n g vl ml ll w' := by
  obtain ⟨F, P, cs, h1, h2, h3, h4, h5, h6⟩ := h.parts
  obtain ⟨A, c, e, hc, hC⟩ := Kd.R_reads h3
  rw [e]
  refine (hindsightref15_Count.calls 2000 A c _ x _ w hC hc (count_f ll hl x 2000 (by omega))).mono ?_
  rintro e' w' ⟨rfl, hb⟩
  exact ⟨rfl, by rw [← e]; exact h.nope (Turn.ofBelow hb _)⟩
theorem meml_rholds (w : World) (h : MemL w0 G n g vl ml ll w) (hl : ll.length ≤ 1000) (x : Int) : Calls Try.prog 19 #[vl, .int .i64 x] w fun e w' => e = .returned (.string (refHolds ll x)) ∧ MemL w0 G n g vl ml ll w' := by
  obtain ⟨F, P, cs, h1, h2, h3, h4, h5, h6⟩ := h.parts
  obtain ⟨A, c, e, hc, hC⟩ := Kd.R_reads h3
  rw [e]
  refine (hindsightref15_Holds.calls 2000 A c _ x _ w hC hc (holds_f ll hl x 2000 (by omega))).mono ?_
  rintro e' w' ⟨rfl, hb⟩
  exact ⟨rfl, by rw [← e]; exact h.nope (Turn.ofBelow hb _)⟩
theorem meml_rswaps (w : World) (h : MemL w0 G n g vl ml ll w) (hl : ll.length ≤ 1000) (x : Int) : Calls Try.prog 20 #[vl, .int .i64 x] w fun e w' => e = .returned (.int .i64 (refSwaps ll x)) ∧ MemL w0 G n g vl ml ll w' := by
  obtain ⟨F, P, cs, h1, h2, h3, h4, h5, h6⟩ := h.parts
  obtain ⟨A, c, e, hc, hC⟩ := Kd.R_reads h3
  rw [e]
  refine (hindsightref15_Swaps.calls 2000 A c _ x _ w hC hc (swaps_f ll hl x 2000 (by omega))).mono ?_
  rintro e' w' ⟨rfl, hb⟩
  exact ⟨rfl, by rw [← e]; exact h.nope (Turn.ofBelow hb _)⟩
/-- .. and beside them one block of the law's own. -/
def MemB (w0 : World) (n g : Nat) (vl : Value) (ml ll : List Dn) (ab : Nat) (o : Obj) (w : World) : Prop := ∃ G, MemL w0 G n g vl ml ll w ∧ ¬ G ab ∧ w.heap[ab]? = some o ∧ w0.heap.size ≤ ab
variable {ab : Nat} {o : Obj}
theorem MemB.nope (h : MemB w0 n g vl ml ll ab o w) (ht : Turn Nope w w') : MemB w0 n g vl ml ll ab o w' := by
  obtain ⟨G, h1, h2, h3, h4⟩ := h
  exact ⟨G, h1.nope ht, h2, ht.blk h3 id, h4⟩
theorem MemB.turn (h : MemB w0 n g vl ml ll ab o w) : Turn Nope w0 w := by obtain ⟨G, h1, _⟩ := h; exact h1.turn
theorem MemB.blk (h : MemB w0 n g vl ml ll ab o w) : w.heap[ab]? = some o := by obtain ⟨G, _, _, h, _⟩ := h; exact h
theorem MemB.set {xs : Array Value} {t : TypeId} (h : MemB w0 n g vl ml ll ab (.cells xs t (0, 0)) w) (i : Nat) (v : Value) : MemB w0 n g vl ml ll ab (.cells (xs.setIfInBounds i v) t (0, 0)) (w.setCell ⟨ab, i, none⟩ v) := by
  obtain ⟨G, h1, h2, h3, h4⟩ := h
  obtain ⟨F, P, cs, k1, k2, k3, k4, k5, k6⟩ := h1.parts
  have ht : Turn (At ab) w (w.setCell ⟨ab, i, none⟩ v) := (Turn.refl _ _).set_at _
  have hn : ∀ k, At ab k → ¬ G k := fun k hk hG => h2 (by rw [show ab = k from hk.symm]; exact hG)
  exact ⟨G, ⟨⟨F, P, cs, k1.turn ht (fun k hk hF => hn k hk (k5 k (.inl hF))), k2, R_turn k3 ht (fun k hP hk => hn k hk (k5 k (.inr hP))), k4, k5, fun k hk => ⟨(k6 k hk).1, Nat.lt_of_lt_of_le (k6 k hk).2 ht.size⟩⟩, h1.turn.set_new h4 _, h1.lo⟩, h2, blk_set h3 i v, h4⟩
theorem memb_do (w : World) (h : MemB w0 n g vl ml ll ab o w) (hl : ml.length ≤ 1000) (who k c : Int) (hw : (Lit.int .i64 who).wf = true) (ol nw : ByteArray) :
    Calls Try.prog 10 #[.pointer (some ⟨g, 0, none⟩), .int .i64 who, accV k c ol nw] w fun e w' => e = .returned (.tuple #[.string (accD n ml who k c ol nw).2.1, .bool (accD n ml who k c ol nw).2.2.1, .int .i64 (accD n ml who k c ol nw).2.2.2]) ∧ MemB w0 n g vl (accD n ml who k c ol nw).1 ll ab o w' := by
  obtain ⟨G, h1, h2, h3, h4⟩ := h
  refine (meml_do w h1 hl who k c hw ol nw).mono ?_
  rintro e w' ⟨rfl, ⟨G', h5, h6⟩, ht⟩
  refine ⟨rfl, G', h5, fun hx => ?_, ht.blk h3 h2, h4⟩
  have := blk_lt h3
  rcases h6 _ hx with h7 | h7
  · exact h2 h7
  · omega
theorem memb_ref (w : World) (h : MemB w0 n g vl ml ll ab o w) (hl : ll.length ≤ 1000) (who k c : Int) (ol nw : ByteArray) :
    Calls Try.prog 17 #[vl, .int .i64 (n : Int), .int .i64 who, accV k c ol nw] w fun e w' => ∃ vl', e = .returned (.tuple #[vl', .string (accD n ll who k c ol nw).2.1, .bool (accD n ll who k c ol nw).2.2.1, .int .i64 (accD n ll who k c ol nw).2.2.2]) ∧ MemB w0 n g vl' ml (accD n ll who k c ol nw).1 ab o w' := by
  obtain ⟨G, h1, h2, h3, h4⟩ := h
  refine (meml_ref w h1 hl who k c ol nw).mono ?_
  rintro e w' ⟨vl', rfl, ⟨G', h5, h6⟩, ht⟩
  refine ⟨vl', rfl, G', h5, fun hx => ?_, ht.blk h3 h2, h4⟩
  have := blk_lt h3
  rcases h6 _ hx with h7 | h7
  · exact h2 h7
  · omega
/-- A Memory and a list. -/
def MemM (w0 : World) (n g : Nat) (vl : Value) (ml ll : List Dn) (w : World) : Prop := ∃ G, MemL w0 G n g vl ml ll w ∧ ∀ k, G k → k < w.heap.size
theorem MemB.out (h : MemB w0 n g vl ml ll ab o w) : ∃ G, MemL w0 G n g vl ml ll w := by
  obtain ⟨G, h1, _⟩ := h
  exact ⟨G, h1⟩
/-- A footprint may be taken as it stands: below the heap's end. -/
theorem MemL.snug (h : MemL w0 G n g vl ml ll w) : ∃ G', MemL w0 G' n g vl ml ll w ∧ ∀ k, G' k → k < w.heap.size := by
  obtain ⟨F, P, cs, h1, h2, h3, h4, h5, h6⟩ := h.parts
  refine ⟨fun k => F k ∨ P k, ⟨⟨F, P, cs, h1, h2, h3, h4, fun k hk => hk, h6⟩, h.turn, fun k hk => ?_⟩, fun k hk => ?_⟩
  · rcases hk with hk | hk
    · exact h1.lo k hk
    · exact (h6 k hk).1
  · rcases hk with hk | hk
    · exact h1.lt k hk
    · exact (h6 k hk).2
theorem MemL.withBlk (h : MemL w0 G n g vl ml ll w) (o : Obj) : MemB w0 n g vl ml ll w.heap.size o (w.alloc o) := by
  obtain ⟨G', h1, h2⟩ := h.snug
  exact ⟨G', h1.nope ((Turn.refl _ _).alloc _), fun hx => Nat.lt_irrefl _ (h2 _ hx), blk_new _ _, h1.turn.size⟩
end Go.Proofs.Ytpcfgigmchndjaa
