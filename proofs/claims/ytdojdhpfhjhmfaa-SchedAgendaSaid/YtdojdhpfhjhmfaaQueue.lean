import Derived.Test.YtdojdhpfhjhmfaaHp
set_option linter.unusedVariables false
set_option maxRecDepth 16000
namespace Go.Proofs.Ytdojdhpfhjhmfaa
open Go.RowKit Go.Proofs.HeapPlain
variable {w w' : World} {F G : Nat → Prop} {q n : Nat} {S S' : List It}
/-- A queue: its own block q, the things S in their order, n were added; its blocks are F. -/
structure QAt (w : World) (F : Nat → Prop) (q p : Nat) (v : Value) (L S : List It) (n : Nat) : Prop where
  hq : w.heap[q]? = some (.cells #[.pointer (some ⟨p, 0, none⟩), .int .i64 (n : Int)] 71 (0, 0))
  pl : Pl w 0 p v L
  ord : HQ L S n
  foot : ∀ k, F k ↔ k = q ∨ FP p v k
def Qs (w : World) (F : Nat → Prop) (q : Nat) (S : List It) (n : Nat) : Prop := ∃ p v L, QAt w F q p v L S n
theorem QAt.qp {p : Nat} {v : Value} {L : List It} (h : QAt w F q p v L S n) : ¬ FP p v q := by
  rintro (hk | hk)
  · subst hk
    have h1 := h.hq
    rw [h.pl.hp] at h1
    injection h1 with h1
    injection h1 with h1 h2
    exact absurd h2 (by decide)
  · exact own_ne h.pl.row h.hq (by decide) q hk rfl
theorem QAt.lt {p : Nat} {v : Value} {L : List It} (h : QAt w F q p v L S n) : ∀ k, F k → k < w.heap.size := by
  intro k hk
  rcases (h.foot k).1 hk with rfl | rfl | hk
  · exact blk_lt h.hq
  · exact blk_lt h.pl.hp
  · exact (World.ownsRow.lt h.pl.row k hk).2
theorem Qs.lt (h : Qs w F q S n) : ∀ k, F k → k < w.heap.size := by obtain ⟨p, v, L, h⟩ := h; exact h.lt
theorem Qs.own (h : Qs w F q S n) : F q := by obtain ⟨p, v, L, h⟩ := h; exact (h.foot q).2 (.inl rfl)
theorem QAt.keep {p : Nat} {v : Value} {L : List It} (h : QAt w F q p v L S n) (ht : Turn G w w') (hg : ∀ k, F k → ¬ G k) : QAt w' F q p v L S n :=
  ⟨ht.blk h.hq (hg _ ((h.foot _).2 (.inl rfl))), ⟨ht.blk h.pl.hp (hg _ ((h.foot _).2 (.inr (.inl rfl)))), own_turn h.pl.row ht (fun k hk => hg _ ((h.foot _).2 (.inr (.inr hk)))), Nat.zero_le _⟩, h.ord, h.foot⟩
theorem Qs.keep (h : Qs w F q S n) (ht : Turn G w w') (hg : ∀ k, F k → ¬ G k) : Qs w' F q S n := by obtain ⟨p, v, L, h⟩ := h; exact ⟨p, v, L, h.keep ht hg⟩
theorem Qs.nope (h : Qs w F q S n) (ht : Turn Nope w w') : Qs w' F q S n := h.keep ht fun _ _ h => h
/-- A block of another type is none of the queue's. -/
theorem Qs.other (h : Qs w F q S n) {g : Nat} {cs : Array Value} {t : TypeId} (hg : w.heap[g]? = some (.cells cs t (0, 0))) (h1 : t ≠ 71) (h2 : t ≠ 68) (h3 : t ≠ 84) : ¬ F g := by
  obtain ⟨p, v, L, h⟩ := h
  intro hk
  have key : ∀ {cs' : Array Value} {t' : TypeId}, w.heap[g]? = some (.cells cs' t' (0, 0)) → t = t' := by
    intro cs' t' h'
    rw [hg] at h'
    injection h' with h'
    injection h' with _ h'
  rcases (h.foot g).1 hk with rfl | rfl | hk
  · exact h1 (key h.hq)
  · exact h2 (key h.pl.hp)
  · exact own_ne h.pl.row hg (Ne.symm h3) g hk rfl
theorem Qs.row (h : Qs w F q S n) {base e size m : Nat} {v : Value} {xs : List Value} (hr : w.ownsRow base e size v m xs) (h1 : e ≠ 71) (h2 : e ≠ 68) (h3 : e ≠ 84) : ∀ k, v.ownBlock = some k → ¬ F k := by
  intro k hk
  rcases hr.2 with ⟨rfl, _⟩ | ⟨g, cap, cur, rfl, _, hh, _⟩
  · simp [Value.ownBlock] at hk
  · have e1 : g = k := by simpa [Value.ownBlock] using hk
    subst e1
    exact h.other hh h1 h2 h3
theorem Pl.none {w : World} {g : Nat} {cs : Array Value} {p : Nat} (hp : w.heap[p]? = some (.cells #[.slice (some ⟨g, 0, none⟩) 0 0] 68 (0, 0))) (hg : w.heap[g]? = some (.cells #[] 84 (0, 0))) : Pl w 0 p (.slice (some ⟨g, 0, none⟩) 0 0) [] :=
  ⟨hp, ⟨rfl, .inr ⟨g, 0, #[], rfl, Nat.zero_le _, hg, Nat.le_refl _, Nat.zero_le _, rfl, rfl⟩⟩, Nat.zero_le _⟩
set_option maxHeartbeats 4000000 in
theorem qnew (w : World) : Calls Try.prog 27 #[] w fun e w' => ∃ q F, e = .returned (.pointer (some ⟨q, 0, none⟩)) ∧ Qs w' F q [] 0 ∧ Turn Nope w w' ∧ ∀ k, F k → w.heap.size ≤ k := by
  go_enter Try.func27, Try.ntmps27
  go_wp2_with fail
  go_ret
  refine ⟨_, fun k => k = w.heap.size + 1 + 1 ∨ FP (w.heap.size + 1) (.slice (some ⟨w.heap.size, 0, none⟩) 0 0) k, rfl, ⟨w.heap.size + 1, _, [], ⟨?_, Pl.none (cs := #[]) ?_ ?_, HQ.nil, fun k => Iff.rfl⟩⟩, (((Turn.refl _ _).alloc _).alloc _).alloc _, fun k hk => ?_⟩
  · have := blk_new ((w.alloc (.cells #[] 84)).alloc (.cells #[.slice (some ⟨w.heap.size, 0, none⟩) 0 0] 68)) (.cells #[.pointer (some ⟨w.heap.size + 1, 0, none⟩), .int .i64 0] 71)
    simpa using this
  · have := blk_alloc (blk_new (w.alloc (.cells #[] 84)) (.cells #[.slice (some ⟨w.heap.size, 0, none⟩) 0 0] 68)) (.cells #[.pointer (some ⟨w.heap.size + 1, 0, none⟩), .int .i64 0] 71)
    simpa using this
  · exact blk_alloc (blk_alloc (blk_new w (.cells #[] 84)) _) _
  · rcases hk with rfl | rfl | hk
    · omega
    · omega
    · have e1 : w.heap.size = k := by simpa [Value.ownBlock] using hk
      omega
set_option maxHeartbeats 4000000 in
theorem qlen (h : Qs w F q S n) : Calls Try.prog 14 #[.pointer (some ⟨q, 0, none⟩)] w fun e w' => e = .returned (.int .i64 (S.length : Int)) ∧ w = w' := by
  obtain ⟨p, v, L, h⟩ := h
  obtain ⟨A, c, rfl, _⟩ := own_slice h.pl.row
  have c0 := blk_cell h.hq 0
  have cp := blk_cell h.pl.hp 0
  simp only [List.getElem?_toArray, List.getElem?_cons_zero] at c0 cp
  rw [h.ord.len] at cp
  clear h
  go_enter Try.func14, Try.ntmps14
  go_wp2_with fail
  go_ret
  exact ⟨rfl, rfl⟩
set_option maxHeartbeats 4000000 in
theorem qadd (h : Qs w F q S n) (hl : S.length ≤ 999999) (hn : n ≤ 1000000000) (tick who : Int) :
    Calls Try.prog 36 #[.pointer (some ⟨q, 0, none⟩), .int .i64 tick, .int .i64 who] w fun e w' => e = .returned (.tuple #[]) ∧ (∃ F', Qs w' F' q (insI ⟨tick, who, (n : Int) + 1⟩ S) (n + 1) ∧ ∀ k, F' k → F k ∨ w.heap.size ≤ k) ∧ Turn F w w' := by
  obtain ⟨p, v, L, h⟩ := h
  have c0 := blk_cell h.hq 0
  have c1 := blk_cell h.hq 1
  have cf := blk_frozen h.hq 1
  have cp := blk_cell h.pl.hp 0
  simp only [List.getElem?_toArray, List.getElem?_cons_zero, List.getElem?_cons_succ] at c0 c1 cp
  have HA := Lib.hid h
  clear h
  have hw : wrap64 ((n : Int) + 1) = (n : Int) + 1 := IntWalk.wrap64_in _ ⟨by omega, by omega⟩
  go_enter Try.func36, Try.ntmps36
  go_wp2_with fail
  have HB : Hid ((w.setCell ⟨q, 1, none⟩ (.int .i64 ((n : Int) + 1))).heap[q]? = some (.cells #[.pointer (some ⟨p, 0, none⟩), .int .i64 ((n + 1 : Nat) : Int)] 71 (0, 0))) := blk_set HA.out.hq 1 _
  have HT : Hid (Turn (At q) w (w.setCell ⟨q, 1, none⟩ (.int .i64 ((n : Int) + 1)))) := (Turn.refl _ _).set_at _
  have HPB : Hid (Pl (w.setCell ⟨q, 1, none⟩ (.int .i64 ((n : Int) + 1))) 0 p v L) := ⟨HT.out.blk HA.out.pl.hp (fun e => HA.out.qp (.inl e.symm)), own_turn HA.out.pl.row HT.out (fun k hk hk' => HA.out.qp (.inr (by rw [← hk']; exact hk))), Nat.zero_le _⟩
  clear c0 c1 cf cp
  generalize w.setCell ⟨q, 1, none⟩ (.int .i64 ((n : Int) + 1)) = wb at *
  have c0 := blk_cell HB.out 0
  have c1 := blk_cell HB.out 1
  have cp := blk_cell HPB.out.hp 0
  simp only [List.getElem?_toArray, List.getElem?_cons_zero, List.getElem?_cons_succ] at c0 c1 cp
  go_wp2_with (first | (refine still_tail (id := 1) 13 (by kernel_rfl) (by kernel_rfl) ?_; simp only [List.take_succ_cons, List.take_zero, List.drop_succ_cons, List.drop_zero]; (repeat still_step); refine wpStill_nil ?_))
  refine (hpush (HPB.out.nope (Turn.refl _ _).drew) (by rw [HA.out.ord.len]; omega) ⟨tick, who, (n : Int) + 1⟩).mono ?_
  rintro e w2 ⟨rfl, ⟨v2, h2, hf2⟩, ht2⟩
  have HP2 := Lib.hid h2
  have HF2 := Lib.hid hf2
  have HT2 := Lib.hid ht2
  clear h2 hf2 ht2
  go_wp2_with fail
  go_end0
  have hH := HA.out.ord.push tick who
  have hT : Turn F w w2 := ((HT.out.drew.mono (S' := F) (fun k hk => (HA.out.foot k).2 (.inl hk))).trans (HT2.out.mono fun k hk => (HA.out.foot k).2 (.inr hk)))
  refine ⟨rfl, ⟨fun k => k = q ∨ FP p v2 k, ⟨p, v2, _, HT2.out.blk HB.out HA.out.qp, HP2.out, hH, fun k => Iff.rfl⟩, fun k hk => ?_⟩, hT⟩
  rcases hk with hk | hk
  · exact .inl ((HA.out.foot k).2 (.inl hk))
  · rcases HF2.out k hk with h | h
    · exact .inl ((HA.out.foot k).2 (.inr h))
    · exact .inr (Nat.le_trans HT.out.size h)
set_option maxHeartbeats 4000000 in
theorem qfirst_none (h : Qs w F q [] n) : Calls Try.prog 37 #[.pointer (some ⟨q, 0, none⟩)] w fun e w' => e = .returned (.tuple #[.int .i64 0, .int .i64 0, .bool false]) ∧ w = w' := by
  have cL := qlen h
  simp only [List.length_nil] at cL
  have HC := Lib.hid cL
  clear cL h
  go_enter Try.func37, Try.ntmps37
  go_wp2_with (go_at_call 14; refine HC.out.mono ?_; rintro e w' ⟨rfl, rfl⟩)
  go_ret3
  exact ⟨rfl, rfl⟩
set_option maxHeartbeats 4000000 in
theorem qfirst_some {s : It} (h : Qs w F q (s :: S) n) (hl : S.length ≤ 999999) : Calls Try.prog 37 #[.pointer (some ⟨q, 0, none⟩)] w fun e w' => e = .returned (.tuple #[.int .i64 s.tick, .int .i64 s.who, .bool true]) ∧ Turn Nope w w' := by
  have HC := Lib.hid (qlen h)
  obtain ⟨p, v, L, h⟩ := h
  have hs : L[0]? = some s := by rw [← h.ord.head]; exact getD_at (by rw [h.ord.len]; simp)
  have hl1 := h.ord.len
  obtain ⟨g, c, rfl, a0, a1, a2⟩ := h.pl.row.cells hs
  have c0 := blk_cell h.hq 0
  have cp := blk_cell h.pl.hp 0
  simp only [List.getElem?_toArray, List.getElem?_cons_zero, List.length_cons] at c0 cp hl1
  rw [hl1] at cp
  have t1 : (((S.length : Int) + 1) == 0) = false := by simp; omega
  clear h hs hl1
  simp only [Nat.zero_mul, Nat.zero_add] at a0 a1 a2
  go_enter Try.func37, Try.ntmps37
  go_wp2_with (first | (go_at_call 14; refine HC.out.mono ?_; rintro e w' ⟨rfl, rfl⟩) | (go_quiet (fail)))
  go_ret3
  exact ⟨rfl, by repeat (first | exact Turn.refl _ _ | exact (Turn.refl _ _).alloc _ | apply Turn.drewN | apply Turn.drew | apply Turn.alloc)⟩
set_option maxHeartbeats 4000000 in
theorem qtake_none (h : Qs w F q [] n) : Calls Try.prog 29 #[.pointer (some ⟨q, 0, none⟩)] w fun e w' => e = .returned (.tuple #[.int .i64 0, .int .i64 0, .bool false]) ∧ w = w' := by
  have HC := Lib.hid (qfirst_none h)
  clear h
  go_enter Try.func29, Try.ntmps29
  go_wp2_with (go_at_call 37; refine HC.out.mono ?_; rintro e w' ⟨rfl, rfl⟩)
  go_ret3
  exact ⟨rfl, rfl⟩
set_option maxHeartbeats 4000000 in
theorem qtake_some {s : It} (h : Qs w F q (s :: S) n) (hl : S.length ≤ 999999) : Calls Try.prog 29 #[.pointer (some ⟨q, 0, none⟩)] w fun e w' => e = .returned (.tuple #[.int .i64 s.tick, .int .i64 s.who, .bool true]) ∧ (∃ F', Qs w' F' q S n ∧ ∀ k, F' k → F k) ∧ Turn F w w' := by
  have HQ' := Lib.hid h
  clear h
  go_enter Try.func29, Try.ntmps29
  go_wp2_with fail
  refine (qfirst_some HQ'.out hl).mono ?_
  rintro e w1 ⟨rfl, ht⟩
  have HT1 := Lib.hid ht
  clear ht
  obtain ⟨p, v, L, h⟩ := HQ'.out.nope HT1.out
  have c0 := blk_cell h.hq 0
  simp only [List.getElem?_toArray, List.getElem?_cons_zero] at c0
  have HA := Lib.hid h
  clear h
  go_wp2_with fail
  refine (hpop HA.out.pl (by rw [HA.out.ord.len]; simp; omega) (n := S.length) (by rw [HA.out.ord.len]; simp)).mono ?_
  rintro e w2 ⟨⟨u, rfl⟩, ⟨v2, h2, hf2⟩, ht2⟩
  have HP2 := Lib.hid h2
  have HF2 := Lib.hid hf2
  have HT2 := Lib.hid ht2
  clear h2 hf2 ht2
  go_wp2_with fail
  go_ret3
  refine ⟨rfl, ⟨fun k => k = q ∨ FP p v2 k, ⟨p, v2, _, HT2.out.blk HA.out.hq HA.out.qp, HP2.out, HA.out.ord.pop, fun k => Iff.rfl⟩, fun k hk => ?_⟩, HT1.out.ofNope.trans (HT2.out.mono fun k hk => (HA.out.foot k).2 (.inr hk))⟩
  rcases hk with hk | hk
  · exact (HA.out.foot k).2 (.inl hk)
  · exact (HA.out.foot k).2 (.inr (HF2.out k hk))
end Go.Proofs.Ytdojdhpfhjhmfaa
