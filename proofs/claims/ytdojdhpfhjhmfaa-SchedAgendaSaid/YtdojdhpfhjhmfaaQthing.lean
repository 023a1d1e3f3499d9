import Derived.Test.YtdojdhpfhjhmfaaQdrop
set_option linter.unusedVariables false
set_option maxRecDepth 16000
namespace Go.Proofs.Ytdojdhpfhjhmfaa
open Go.RowKit Go.Proofs.HeapPlain
/-! ### 1. Things, plain -/
def Rises (l : List Thing) : Prop := l.Pairwise fun a b => a.1 ≤ b.1
def dueT (tick : Int) (x : Thing) : Bool := decide (x.1 ≤ tick)
def dueOf (tick : Int) (l : List Thing) : List Thing := l.filter (dueT tick)
def lateOf (tick : Int) (l : List Thing) : List Thing := l.filter fun x => !dueT tick x
theorem rises_due (tick : Int) : ∀ l : List Thing, Rises l → l.takeWhile (dueT tick) = dueOf tick l ∧ l.dropWhile (dueT tick) = lateOf tick l
  | [], _ => ⟨rfl, rfl⟩
  | x :: l, h => by
    have h1 := List.pairwise_cons.1 h
    have ih := rises_due tick l h1.2
    unfold dueOf lateOf at *
    by_cases hx : dueT tick x = true
    · simp [hx, ih]
    · have hx' : dueT tick x = false := by simpa using hx
      have hall : ∀ y ∈ l, dueT tick y = false := fun y hy => by
        have := h1.1 y hy
        unfold dueT at *
        simp at *; omega
      refine ⟨?_, ?_⟩
      · rw [List.takeWhile_cons_of_neg (by rw [hx']; decide), List.filter_cons_of_neg (by rw [hx']; decide)]
        exact (List.filter_eq_nil_iff.2 fun y hy => by rw [hall y hy]; decide).symm
      · rw [List.dropWhile_cons_of_neg (by rw [hx']; decide), List.filter_cons_of_pos (by rw [hx']; rfl)]
        rw [List.filter_eq_self.2 fun y hy => by rw [hall y hy]; rfl]
theorem insR_perm (x : Thing) : ∀ l : List Thing, (insR x l).Perm (x :: l)
  | [] => List.Perm.refl _
  | y :: l => by
    unfold insR
    split
    · exact List.Perm.refl _
    · exact ((insR_perm x l).cons y).trans (List.Perm.swap x y l)
theorem insR_length (x : Thing) (l : List Thing) : (insR x l).length = l.length + 1 := by rw [(insR_perm x l).length_eq]; rfl
theorem notOfT_length (who : Int) (l : List Thing) : (notOfT who l).length ≤ l.length := List.length_filter_le _ _
/-- All things of one tick in the order of whose they are. -/
def Ord2 (l : List Thing) : Prop := l.Pairwise fun a b => a.1 < b.1 ∨ a.1 = b.1 ∧ a.2 < b.2
theorem insR_ord2 (x : Thing) : ∀ l : List Thing, Ord2 l → (∀ y ∈ l, y.2 < x.2) → Ord2 (insR x l)
  | [], _, _ => List.pairwise_singleton _ _
  | y :: l, h, hs => by
    unfold Ord2 at h
    rw [List.pairwise_cons] at h
    have h0 := hs y List.mem_cons_self
    unfold insR Ord2
    split
    · rename_i hl
      rw [List.pairwise_cons]
      refine ⟨fun z hz => ?_, List.pairwise_cons.2 h⟩
      rcases List.mem_cons.1 hz with rfl | hz
      · exact .inl hl
      · have := h.1 z hz; omega
    · rename_i hl
      rw [List.pairwise_cons]
      refine ⟨fun z hz => ?_, insR_ord2 x l h.2 fun z hz => hs z (List.mem_cons_of_mem _ hz)⟩
      rcases List.mem_cons.1 ((insR_perm x l).mem_iff.1 hz) with rfl | hz
      · omega
      · exact h.1 z hz
/-- What was filled in from ticks: its place tells whose it is. -/
structure Filled (ts : Nat → Int) (m : Nat) (l : List Thing) : Prop where
  mem : ∀ x ∈ l, ∃ j : Nat, x = (ts j, (j : Int)) ∧ j < m
  ord : Ord2 l
theorem Filled.nil (ts : Nat → Int) : Filled ts 0 [] := ⟨(fun _ h => by cases h), List.Pairwise.nil⟩
theorem Filled.add {ts : Nat → Int} {m : Nat} {l : List Thing} (h : Filled ts m l) : Filled ts (m + 1) (insR (ts m, (m : Int)) l) := by
  refine ⟨fun x hx => ?_, insR_ord2 _ _ h.ord fun y hy => ?_⟩
  · rcases List.mem_cons.1 ((insR_perm _ l).mem_iff.1 hx) with rfl | hx
    · exact ⟨m, rfl, by omega⟩
    · obtain ⟨j, e, hj⟩ := h.mem x hx; exact ⟨j, e, by omega⟩
  · obtain ⟨j, rfl, hj⟩ := h.mem y hy; show (j : Int) < m; omega
theorem Filled.tail {ts : Nat → Int} {m : Nat} {x : Thing} {l : List Thing} (h : Filled ts m (x :: l)) : Filled ts m l := ⟨fun y hy => h.mem y (List.mem_cons_of_mem _ hy), (List.pairwise_cons.1 h.ord).2⟩
theorem Filled.sub {ts : Nat → Int} {m : Nat} {l k : List Thing} (h : Filled ts m l) (hs : k.Sublist l) : Filled ts m k := ⟨fun y hy => h.mem y (hs.mem hy), h.ord.sublist hs⟩
theorem Ord2.rises {l : List Thing} (h : Ord2 l) : Rises l := h.imp fun h => by omega
/-! ### 2. A queue that holds things -/
variable {w0 w w' : World} {F F' G : Nat → Prop} {q n : Nat} {l l' : List Thing}
def Qt (w : World) (F : Nat → Prop) (q : Nat) (l : List Thing) (n : Nat) : Prop := ∃ S, Qs w F q S n ∧ S.map tw = l
theorem Qt.rises (h : Qt w F q l n) : Rises l := by
  obtain ⟨S, ⟨p, v, L, h⟩, rfl⟩ := h
  unfold Rises
  rw [List.pairwise_map]
  exact h.ord.sorted.imp fun h => by unfold itLt at h; show _ ≤ _; simp only [tw]; omega
theorem Qt.keep (h : Qt w F q l n) (ht : Turn G w w') (hg : ∀ k, F k → ¬ G k) : Qt w' F q l n := by obtain ⟨S, h, e⟩ := h; exact ⟨S, h.keep ht hg, e⟩
theorem Qt.lt (h : Qt w F q l n) : ∀ k, F k → k < w.heap.size := by obtain ⟨S, h, e⟩ := h; exact h.lt
theorem Qt.row (h : Qt w F q l n) {base e size m : Nat} {v : Value} {xs : List Value} (hr : w.ownsRow base e size v m xs) (h1 : e ≠ 71) (h2 : e ≠ 68) (h3 : e ≠ 84) : ∀ k, v.ownBlock = some k → ¬ F k := by obtain ⟨S, h, e⟩ := h; exact h.row hr h1 h2 h3
theorem Qt.other (h : Qt w F q l n) {g : Nat} {cs : Array Value} {t : TypeId} (hg : w.heap[g]? = some (.cells cs t (0, 0))) (h1 : t ≠ 71) (h2 : t ≠ 68) (h3 : t ≠ 84) : ¬ F g := by obtain ⟨S, h, e⟩ := h; exact h.other hg h1 h2 h3
/-- The blocks that a call came to: its own, or new ones. -/
def Sub (w : World) (F F' : Nat → Prop) : Prop := ∀ k, F' k → F k ∨ w.heap.size ≤ k
def whoT (l : List Thing) : List Value := l.map fun s => Value.int .i64 s.2
theorem qt_new (w : World) : Calls Try.prog 27 #[] w fun e w' => ∃ q F, e = .returned (.pointer (some ⟨q, 0, none⟩)) ∧ Qt w' F q [] 0 ∧ Turn Nope w w' ∧ ∀ k, F k → w.heap.size ≤ k := by
  refine (qnew w).mono ?_
  rintro e w' ⟨q, F, he, hq, ht, hF⟩
  exact ⟨q, F, he, ⟨[], hq, rfl⟩, ht, hF⟩
theorem qt_len (h : Qt w F q l n) : Calls Try.prog 14 #[.pointer (some ⟨q, 0, none⟩)] w fun e w' => e = .returned (.int .i64 (l.length : Int)) ∧ w = w' := by
  obtain ⟨S, h, rfl⟩ := h
  rw [List.length_map]
  exact qlen h
theorem qt_add (h : Qt w F q l n) (hl : l.length ≤ 999999) (hn : n ≤ 1000000000) (tick who : Int) :
    Calls Try.prog 36 #[.pointer (some ⟨q, 0, none⟩), .int .i64 tick, .int .i64 who] w fun e w' => e = .returned (.tuple #[]) ∧ ∃ F', Qt w' F' q (insR (tick, who) l) (n + 1) ∧ Sub w F F' ∧ Turn F w w' := by
  obtain ⟨S, h, rfl⟩ := h
  rw [List.length_map] at hl
  refine (qadd h hl hn tick who).mono ?_
  rintro e w' ⟨he, ⟨F', hq, hs⟩, ht⟩
  refine ⟨he, F', ⟨_, hq, insI_tw _ _ fun y hy => ?_⟩, hs, ht⟩
  obtain ⟨p, v, L, h⟩ := h
  have := h.ord.seqs y hy
  show y.seq < (n : Int) + 1
  omega
theorem qt_first_none (h : Qt w F q [] n) : Calls Try.prog 37 #[.pointer (some ⟨q, 0, none⟩)] w fun e w' => e = .returned (.tuple #[.int .i64 0, .int .i64 0, .bool false]) ∧ w = w' := by
  obtain ⟨S, h, e⟩ := h
  rw [List.map_eq_nil_iff] at e
  subst e
  exact qfirst_none h
theorem qt_first_some {t who : Int} (h : Qt w F q ((t, who) :: l) n) (hl : l.length ≤ 999999) : Calls Try.prog 37 #[.pointer (some ⟨q, 0, none⟩)] w fun e w' => e = .returned (.tuple #[.int .i64 t, .int .i64 who, .bool true]) ∧ Turn Nope w w' := by
  obtain ⟨S, h, e⟩ := h
  obtain ⟨s, S', rfl, e1, rfl⟩ := List.map_eq_cons_iff.1 e
  injection e1 with e2 e3
  subst e2; subst e3
  rw [List.length_map] at hl
  exact qfirst_some h hl
theorem qt_take_none (h : Qt w F q [] n) : Calls Try.prog 29 #[.pointer (some ⟨q, 0, none⟩)] w fun e w' => e = .returned (.tuple #[.int .i64 0, .int .i64 0, .bool false]) ∧ w = w' := by
  obtain ⟨S, h, e⟩ := h
  rw [List.map_eq_nil_iff] at e
  subst e
  exact qtake_none h
theorem qt_take_some {t who : Int} (h : Qt w F q ((t, who) :: l) n) (hl : l.length ≤ 999999) : Calls Try.prog 29 #[.pointer (some ⟨q, 0, none⟩)] w fun e w' => e = .returned (.tuple #[.int .i64 t, .int .i64 who, .bool true]) ∧ ∃ F', Qt w' F' q l n ∧ Sub w F F' ∧ Turn F w w' := by
  obtain ⟨S, h, e⟩ := h
  obtain ⟨s, S', rfl, e1, rfl⟩ := List.map_eq_cons_iff.1 e
  injection e1 with e2 e3
  subst e2; subst e3
  rw [List.length_map] at hl
  refine (qtake_some h hl).mono ?_
  rintro e w' ⟨he, ⟨F', hq, hs⟩, ht⟩
  exact ⟨he, F', ⟨_, hq, rfl⟩, fun k hk => .inl (hs k hk), ht⟩
theorem qt_drop (h : Qt w F q l n) (hl : l.length ≤ 1000) (who : Int) :
    Calls Try.prog 32 #[.pointer (some ⟨q, 0, none⟩), .int .i64 who] w fun e w' => e = .returned (.int .i64 ((l.length : Int) - (notOfT who l).length)) ∧ ∃ F', Qt w' F' q (notOfT who l) n ∧ Sub w F F' ∧ Turn F w w' := by
  obtain ⟨S, h, rfl⟩ := h
  rw [← notOf_tw, List.length_map, List.length_map]
  rw [List.length_map] at hl
  refine (qdrop h hl who).mono ?_
  rintro e w' ⟨he, ⟨F', hq, hs⟩, ht⟩
  exact ⟨he, F', ⟨_, hq, rfl⟩, fun k hk => .inl (hs k hk), ht⟩
/-! ### 3. In a law: one queue -/
/-- What the queue's calls leave: all blocks but those of three types. -/
def bad3 : Obj → Prop
  | .cells _ t _ => t = 71 ∨ t = 68 ∨ t = 84
  | _ => False
structure Kp (w w' : World) : Prop where
  size : w.heap.size ≤ w'.heap.size
  keep : ∀ (g : Nat) (o : Obj), w.heap[g]? = some o → ¬ bad3 o → w'.heap[g]? = some o
theorem Kp.cells (h : Kp w w') (g : Nat) (cs : Array Value) (t : TypeId) (hg : w.heap[g]? = some (.cells cs t (0, 0))) (h1 : t ≠ 71) (h2 : t ≠ 68) (h3 : t ≠ 84) : w'.heap[g]? = some (.cells cs t (0, 0)) :=
  h.keep g _ hg fun e => by rcases e with e | e | e; exact h1 e; exact h2 e; exact h3 e
theorem Qt.bad (h : Qt w F q l n) {g : Nat} {o : Obj} (hg : w.heap[g]? = some o) (hF : F g) : bad3 o := by
  obtain ⟨S, h, e⟩ := h
  obtain ⟨p, v, L, h⟩ := h
  rcases (h.foot g).1 hF with rfl | rfl | hk
  · have := h.hq; rw [hg] at this; injection this with this; subst this; exact .inl rfl
  · have := h.pl.hp; rw [hg] at this; injection this with this; subst this; exact .inr (.inl rfl)
  · rcases h.pl.row.2 with ⟨rfl, _⟩ | ⟨g', cap, cur, rfl, hb, hh, rest⟩
    · simp [Value.ownBlock] at hk
    · have e : g' = g := by simpa [Value.ownBlock] using hk
      subst e
      rw [hg] at hh; injection hh with hh; subst hh; exact .inr (.inr rfl)
theorem Qt.kp (h : Qt w F q l n) (ht : Turn F w w') : Kp w w' := ⟨ht.size, fun g o hg hb => ht.blk hg fun hF => hb (h.bad hg hF)⟩
theorem Kp.ofNope (ht : Turn Nope w w') : Kp w w' := ⟨ht.size, fun g o hg _ => ht.blk hg fun h => h⟩
theorem Kp.refl (w : World) : Kp w w := ⟨Nat.le_refl _, fun g o hg _ => hg⟩
theorem Kp.trans {a b c : World} (h : Kp a b) (k : Kp b c) : Kp a c := ⟨Nat.le_trans h.size k.size, fun g o hg hb => k.keep g o (h.keep g o hg hb) hb⟩
theorem Kp.row (h : Kp w w') {base e size m : Nat} {v : Value} {xs : List Value} (hr : w.ownsRow base e size v m xs) (h1 : e ≠ 71) (h2 : e ≠ 68) (h3 : e ≠ 84) : w'.ownsRow base e size v m xs := by
  refine ⟨hr.1, ?_⟩
  rcases hr.2 with hn | ⟨g, cap, cur, hv, hb, hh, rest⟩
  · exact .inl hn
  · exact .inr ⟨g, cap, cur, hv, hb, h.cells g cur e hh h1 h2 h3, rest⟩
def One (w0 w : World) (q : Nat) (l : List Thing) (n : Nat) : Prop := ∃ F, Qt w F q l n ∧ (∀ k, F k → w0.heap.size ≤ k) ∧ Turn Nope w0 w
theorem step_own {F F' : Nat → Prop} (h : ∀ k, F k → w0.heap.size ≤ k) (ht0 : Turn Nope w0 w) (hs : Sub w F F') (ht : Turn F w w') : (∀ k, F' k → w0.heap.size ≤ k) ∧ Turn Nope w0 w' :=
  ⟨fun k hk => (hs k hk).elim (h k) (Nat.le_trans ht0.size), ht0.then ht fun k hk => .inr (h k hk)⟩
theorem One.nope (h : One w0 w q l n) (ht : Turn Nope w w') : One w0 w' q l n := by
  obtain ⟨F, h, h1, h2⟩ := h
  exact ⟨F, h.keep ht (fun _ _ h => h), h1, h2.trans ht⟩
theorem One.turn (h : One w0 w q l n) : Turn Nope w0 w := by obtain ⟨F, h, h1, h2⟩ := h; exact h2
theorem One.rises (h : One w0 w q l n) : Rises l := by obtain ⟨F, h, h1, h2⟩ := h; exact h.rises
theorem one_new (w0 w : World) (h : Turn Nope w0 w) : Calls Try.prog 27 #[] w fun e w' => ∃ q, e = .returned (.pointer (some ⟨q, 0, none⟩)) ∧ One w0 w' q [] 0 ∧ Turn Nope w w' := by
  refine (qt_new w).mono ?_
  rintro e w' ⟨q, F, he, hq, ht, hF⟩
  exact ⟨q, he, ⟨F, hq, fun k hk => Nat.le_trans h.size (hF k hk), h.trans ht⟩, ht⟩
theorem one_len (h : One w0 w q l n) : Calls Try.prog 14 #[.pointer (some ⟨q, 0, none⟩)] w fun e w' => e = .returned (.int .i64 (l.length : Int)) ∧ w = w' := by
  obtain ⟨F, h, h1, h2⟩ := h
  exact qt_len h
theorem one_add (h : One w0 w q l n) (hl : l.length ≤ 999999) (hn : n ≤ 1000000000) (tick who : Int) :
    Calls Try.prog 36 #[.pointer (some ⟨q, 0, none⟩), .int .i64 tick, .int .i64 who] w fun e w' => e = .returned (.tuple #[]) ∧ One w0 w' q (insR (tick, who) l) (n + 1) ∧ Kp w w' := by
  obtain ⟨F, h, h1, h2⟩ := h
  refine (qt_add h hl hn tick who).mono ?_
  rintro e w' ⟨he, F', hq, hs, ht⟩
  obtain ⟨h3, h4⟩ := step_own h1 h2 hs ht
  exact ⟨he, ⟨F', hq, h3, h4⟩, h.kp ht⟩
theorem one_first_none (h : One w0 w q [] n) : Calls Try.prog 37 #[.pointer (some ⟨q, 0, none⟩)] w fun e w' => e = .returned (.tuple #[.int .i64 0, .int .i64 0, .bool false]) ∧ w = w' := by
  obtain ⟨F, h, h1, h2⟩ := h
  exact qt_first_none h
theorem one_first_some {t who : Int} (h : One w0 w q ((t, who) :: l) n) (hl : l.length ≤ 999999) : Calls Try.prog 37 #[.pointer (some ⟨q, 0, none⟩)] w fun e w' => e = .returned (.tuple #[.int .i64 t, .int .i64 who, .bool true]) ∧ One w0 w' q ((t, who) :: l) n ∧ Turn Nope w w' := by
  have h' := h
  obtain ⟨F, h, h1, h2⟩ := h
  refine (qt_first_some h hl).mono ?_
  rintro e w' ⟨he, ht⟩
  exact ⟨he, h'.nope ht, ht⟩
theorem one_take_none (h : One w0 w q [] n) : Calls Try.prog 29 #[.pointer (some ⟨q, 0, none⟩)] w fun e w' => e = .returned (.tuple #[.int .i64 0, .int .i64 0, .bool false]) ∧ w = w' := by
  obtain ⟨F, h, h1, h2⟩ := h
  exact qt_take_none h
theorem one_take_some {t who : Int} (h : One w0 w q ((t, who) :: l) n) (hl : l.length ≤ 999999) : Calls Try.prog 29 #[.pointer (some ⟨q, 0, none⟩)] w fun e w' => e = .returned (.tuple #[.int .i64 t, .int .i64 who, .bool true]) ∧ One w0 w' q l n ∧ Kp w w' := by
  obtain ⟨F, h, h1, h2⟩ := h
  refine (qt_take_some h hl).mono ?_
  rintro e w' ⟨he, F', hq, hs, ht⟩
  obtain ⟨h3, h4⟩ := step_own h1 h2 hs ht
  exact ⟨he, ⟨F', hq, h3, h4⟩, h.kp ht⟩
theorem one_drop (h : One w0 w q l n) (hl : l.length ≤ 1000) (who : Int) :
    Calls Try.prog 32 #[.pointer (some ⟨q, 0, none⟩), .int .i64 who] w fun e w' => e = .returned (.int .i64 ((l.length : Int) - (notOfT who l).length)) ∧ One w0 w' q (notOfT who l) n ∧ Kp w w' := by
  obtain ⟨F, h, h1, h2⟩ := h
  refine (qt_drop h hl who).mono ?_
  rintro e w' ⟨he, F', hq, hs, ht⟩
  obtain ⟨h3, h4⟩ := step_own h1 h2 hs ht
  exact ⟨he, ⟨F', hq, h3, h4⟩, h.kp ht⟩
/-! ### 4. Two queues -/
variable {p m : Nat} {k : List Thing}
def Two (w0 w : World) (q p : Nat) (l k : List Thing) (n m : Nat) : Prop := ∃ F G, Qt w F q l n ∧ Qt w G p k m ∧ (∀ x, F x → ¬ G x) ∧ (∀ x, F x → w0.heap.size ≤ x) ∧ (∀ x, G x → w0.heap.size ≤ x) ∧ Turn Nope w0 w
theorem Two.flip (h : Two w0 w q p l k n m) : Two w0 w p q k l m n := by
  obtain ⟨F, G, h1, h2, h3, h4, h5, h6⟩ := h
  exact ⟨G, F, h2, h1, fun x hg hf => h3 x hf hg, h5, h4, h6⟩
theorem Two.turn (h : Two w0 w q p l k n m) : Turn Nope w0 w := by obtain ⟨F, G, h1, h2, h3, h4, h5, h6⟩ := h; exact h6
theorem Two.rises (h : Two w0 w q p l k n m) : Rises l := by obtain ⟨F, G, h1, h2, h3, h4, h5, h6⟩ := h; exact h1.rises
theorem two_new (w0 w : World) (h : One w0 w q l n) : Calls Try.prog 27 #[] w fun e w' => ∃ p, e = .returned (.pointer (some ⟨p, 0, none⟩)) ∧ Two w0 w' q p l [] n 0 := by
  obtain ⟨F, h, h1, h2⟩ := h
  refine (qt_new w).mono ?_
  rintro e w' ⟨p, G, he, hq, ht, hG⟩
  exact ⟨p, he, F, G, h.keep ht (fun _ _ h => h), hq, fun x hf hg => by have := h.lt x hf; have := hG x hg; omega, h1, fun x hx => Nat.le_trans h2.size (hG x hx), h2.trans ht⟩
theorem two_step {F G F' : Nat → Prop} {n' : Nat} (h1 : Qt w F q l n) (h2 : Qt w G p k m) (h3 : ∀ x, F x → ¬ G x) (h4 : ∀ x, F x → w0.heap.size ≤ x) (h5 : ∀ x, G x → w0.heap.size ≤ x) (h6 : Turn Nope w0 w) (hq : Qt w' F' q l' n') (hs : Sub w F F') (ht : Turn F w w') : Two w0 w' q p l' k n' m := by
  obtain ⟨h7, h8⟩ := step_own h4 h6 hs ht
  exact ⟨F', G, hq, h2.keep ht (fun x hg hf => h3 x hf hg), fun x hf hg => by rcases hs x hf with h | h; exact h3 x h hg; have := h2.lt x hg; omega, h7, h5, h8⟩
theorem Two.nope (h : Two w0 w q p l k n m) (ht : Turn Nope w w') : Two w0 w' q p l k n m := by
  obtain ⟨F, G, h1, h2, h3, h4, h5, h6⟩ := h
  exact ⟨F, G, h1.keep ht (fun _ _ h => h), h2.keep ht (fun _ _ h => h), h3, h4, h5, h6.trans ht⟩
theorem two_len (h : Two w0 w q p l k n m) : Calls Try.prog 14 #[.pointer (some ⟨q, 0, none⟩)] w fun e w' => e = .returned (.int .i64 (l.length : Int)) ∧ w = w' := by
  obtain ⟨F, G, h1, h2, h3, h4, h5, h6⟩ := h
  exact qt_len h1
theorem two_add (h : Two w0 w q p l k n m) (hl : l.length ≤ 999999) (hn : n ≤ 1000000000) (tick who : Int) :
    Calls Try.prog 36 #[.pointer (some ⟨q, 0, none⟩), .int .i64 tick, .int .i64 who] w fun e w' => e = .returned (.tuple #[]) ∧ Two w0 w' q p (insR (tick, who) l) k (n + 1) m := by
  obtain ⟨F, G, h1, h2, h3, h4, h5, h6⟩ := h
  refine (qt_add h1 hl hn tick who).mono ?_
  rintro e w' ⟨he, F', hq, hs, ht⟩
  exact ⟨he, two_step h1 h2 h3 h4 h5 h6 hq hs ht⟩
theorem two_first_none (h : Two w0 w q p [] k n m) : Calls Try.prog 37 #[.pointer (some ⟨q, 0, none⟩)] w fun e w' => e = .returned (.tuple #[.int .i64 0, .int .i64 0, .bool false]) ∧ w = w' := by
  obtain ⟨F, G, h1, h2, h3, h4, h5, h6⟩ := h
  exact qt_first_none h1
theorem two_first_some {t who : Int} (h : Two w0 w q p ((t, who) :: l) k n m) (hl : l.length ≤ 999999) : Calls Try.prog 37 #[.pointer (some ⟨q, 0, none⟩)] w fun e w' => e = .returned (.tuple #[.int .i64 t, .int .i64 who, .bool true]) ∧ Two w0 w' q p ((t, who) :: l) k n m := by
  have h' := h
  obtain ⟨F, G, h1, h2, h3, h4, h5, h6⟩ := h
  refine (qt_first_some h1 hl).mono ?_
  rintro e w' ⟨he, ht⟩
  exact ⟨he, h'.nope ht⟩
theorem two_take_none (h : Two w0 w q p [] k n m) : Calls Try.prog 29 #[.pointer (some ⟨q, 0, none⟩)] w fun e w' => e = .returned (.tuple #[.int .i64 0, .int .i64 0, .bool false]) ∧ w = w' := by
  obtain ⟨F, G, h1, h2, h3, h4, h5, h6⟩ := h
  exact qt_take_none h1
theorem two_take_some {t who : Int} (h : Two w0 w q p ((t, who) :: l) k n m) (hl : l.length ≤ 999999) : Calls Try.prog 29 #[.pointer (some ⟨q, 0, none⟩)] w fun e w' => e = .returned (.tuple #[.int .i64 t, .int .i64 who, .bool true]) ∧ Two w0 w' q p l k n m := by
  obtain ⟨F, G, h1, h2, h3, h4, h5, h6⟩ := h
  refine (qt_take_some h1 hl).mono ?_
  rintro e w' ⟨he, F', hq, hs, ht⟩
  exact ⟨he, two_step h1 h2 h3 h4 h5 h6 hq hs ht⟩
theorem two_drop (h : Two w0 w q p l k n m) (hl : l.length ≤ 1000) (who : Int) :
    Calls Try.prog 32 #[.pointer (some ⟨q, 0, none⟩), .int .i64 who] w fun e w' => e = .returned (.int .i64 ((l.length : Int) - (notOfT who l).length)) ∧ Two w0 w' q p (notOfT who l) k n m := by
  obtain ⟨F, G, h1, h2, h3, h4, h5, h6⟩ := h
  refine (qt_drop h1 hl who).mono ?_
  rintro e w' ⟨he, F', hq, hs, ht⟩
  exact ⟨he, two_step h1 h2 h3 h4 h5 h6 hq hs ht⟩
end Go.Proofs.Ytdojdhpfhjhmfaa
