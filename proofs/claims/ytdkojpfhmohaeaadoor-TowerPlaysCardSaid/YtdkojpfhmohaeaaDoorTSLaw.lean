/- A tower in a law. -/
import Derived.Test.YtdkojpfhmohaeaaDoorTSTput
set_option linter.unusedVariables false
namespace Go.Proofs.YtdkojpfhmohaeaaDoor.TS
open Go.RowKit Go.Proofs.TowerPlain
variable {w w' w0 : World} {F G : Nat → Prop} {l : Nat} {t t' : List (Int × ByteArray)}
theorem step_own {F F' : Nat → Prop} (h : ∀ k, F k → w0.heap.size ≤ k) (ht0 : Turn Nope w0 w) (hs : Sub w F F') (ht : Turn F w w') : (∀ k, F' k → w0.heap.size ≤ k) ∧ Turn Nope w0 w' :=
  ⟨fun k hk => (hs k hk).elim (h k) (Nat.le_trans ht0.size), ht0.then ht fun k hk => .inr (h k hk)⟩
/-- What a tower's calls leave: blocks of other types. -/
def Kp (w w' : World) : Prop := ∀ (g : Nat) (cs : Array Value) (t : TypeId), w.heap[g]? = some (.cells cs t (0, 0)) → t ≠ 71 → t ≠ 68 → t ≠ 73 → w'.heap[g]? = some (.cells cs t (0, 0))
theorem Kp.ofNope (ht : Turn Nope w w') : Kp w w' := fun g cs t hg _ _ _ => ht.blk hg fun h => h
theorem Kp.row (h : Kp w w') {base e size m : Nat} {v : Value} {xs : List Value} (hr : w.ownsRow base e size v m xs) (h1 : e ≠ 71) (h2 : e ≠ 68) (h3 : e ≠ 73) : w'.ownsRow base e size v m xs := by
  refine ⟨hr.1, ?_⟩
  rcases hr.2 with hn | ⟨g, cap, cur, hv, hb, hh, rest⟩
  · exact .inl hn
  · exact .inr ⟨g, cap, cur, hv, hb, h g cur e hh h1 h2 h3, rest⟩
theorem Tw.other (h : Tw w F l t) {g : Nat} {cs : Array Value} {ty : TypeId} (hg : w.heap[g]? = some (.cells cs ty (0, 0))) (h1 : ty ≠ 71) (h2 : ty ≠ 68) (h3 : ty ≠ 73) : ¬ F g := by
  obtain ⟨hd, ns, f, h, e⟩ := h
  intro hk
  have key : ∀ {cs' : Array Value} {t' : TypeId}, w.heap[g]? = some (.cells cs' t' (0, 0)) → ty = t' := by
    intro cs' t' h'
    rw [hg] at h'
    injection h' with h'
    injection h' with _ h'
  rcases (h.foot g).1 hk with rfl | ⟨x, hx, rfl | rfl⟩
  · exact h3 (key h.hl)
  · exact h1 (key (h.mem.at_ x hx).nd)
  · exact h2 (key (h.mem.at_ x hx).row)
theorem Tw.kp (h : Tw w F l t) (ht : Turn F w w') : Kp w w' := fun g cs ty hg h1 h2 h3 => ht.blk hg (h.other hg h1 h2 h3)
def One (w0 w : World) (l : Nat) (t : List (Int × ByteArray)) : Prop := ∃ F, Tw w F l t ∧ (∀ k, F k → w0.heap.size ≤ k) ∧ Turn Nope w0 w
theorem One.nope (h : One w0 w l t) (ht : Turn Nope w w') : One w0 w' l t := by
  obtain ⟨F, h, h1, h2⟩ := h
  exact ⟨F, h.nope ht, h1, h2.trans ht⟩
theorem One.turn (h : One w0 w l t) : Turn Nope w0 w := by obtain ⟨F, h, h1, h2⟩ := h; exact h2
theorem one_new (w0 w : World) (h : Turn Nope w0 w) : Calls Tryd.prog 21 #[] w fun e w' => ∃ l, e = .returned (.pointer (some ⟨l, 0, none⟩)) ∧ One w0 w' l [] ∧ Turn Nope w w' := by
  refine (tnew w).mono ?_
  rintro e w' ⟨l, F, he, hq, ht, hF⟩
  exact ⟨l, he, ⟨F, hq, fun k hk => Nat.le_trans h.size (hF k hk), h.trans ht⟩, ht⟩
theorem one_len (h : One w0 w l t) : Calls Tryd.prog 29 #[.pointer (some ⟨l, 0, none⟩)] w fun e w' => e = .returned (.int .i64 (t.length : Int)) ∧ w = w' := by
  obtain ⟨F, h, h1, h2⟩ := h
  exact tlen h
theorem one_put (h : One w0 w l t) (hT : TabAt w0) (v : Int) (hmax : v ≤ 9223372036854775807) (hn : t.length ≤ 1000000) (u : ByteArray) :
    Calls Tryd.prog 23 #[.pointer (some ⟨l, 0, none⟩), .int .i64 v, .string u] w fun e w' => e = .returned (.bool (hasT v t)) ∧ One w0 w' l (insT (v, u) t) ∧ Kp w w' := by
  obtain ⟨F, h, h1, h2⟩ := h
  refine (tput h v hmax (hT.turn h2) hn u).mono ?_
  rintro e w' ⟨he, F', hq, hs, ht⟩
  obtain ⟨h3, h4⟩ := step_own h1 h2 hs ht
  exact ⟨he, ⟨F', hq, h3, h4⟩, h.kp ht⟩
theorem one_floor (h : One w0 w l t) (v : Int) : Calls Tryd.prog 27 #[.pointer (some ⟨l, 0, none⟩), .int .i64 v] w fun e w' => e = .returned (floorR (floorT v t)) ∧ One w0 w' l t ∧ Turn Nope w w' := by
  have h' := h
  obtain ⟨F, h, h1, h2⟩ := h
  refine (tfloor h v).mono ?_
  rintro e w' ⟨he, ht⟩
  exact ⟨he, h'.nope ht, ht⟩
/-! ### Two towers -/
variable {p : Nat} {k : List (Int × ByteArray)}
def Two (w0 w : World) (l p : Nat) (t k : List (Int × ByteArray)) : Prop := ∃ F G, Tw w F l t ∧ Tw w G p k ∧ (∀ x, F x → ¬ G x) ∧ (∀ x, F x → w0.heap.size ≤ x) ∧ (∀ x, G x → w0.heap.size ≤ x) ∧ Turn Nope w0 w
theorem Two.flip (h : Two w0 w l p t k) : Two w0 w p l k t := by
  obtain ⟨F, G, h1, h2, h3, h4, h5, h6⟩ := h
  exact ⟨G, F, h2, h1, fun x hg hf => h3 x hf hg, h5, h4, h6⟩
theorem Two.turn (h : Two w0 w l p t k) : Turn Nope w0 w := by obtain ⟨F, G, h1, h2, h3, h4, h5, h6⟩ := h; exact h6
theorem Two.nope (h : Two w0 w l p t k) (ht : Turn Nope w w') : Two w0 w' l p t k := by
  obtain ⟨F, G, h1, h2, h3, h4, h5, h6⟩ := h
  exact ⟨F, G, h1.nope ht, h2.nope ht, h3, h4, h5, h6.trans ht⟩
theorem two_new (w0 w : World) (h : One w0 w l t) : Calls Tryd.prog 21 #[] w fun e w' => ∃ p, e = .returned (.pointer (some ⟨p, 0, none⟩)) ∧ Two w0 w' l p t [] := by
  obtain ⟨F, h, h1, h2⟩ := h
  refine (tnew w).mono ?_
  rintro e w' ⟨p, G, he, hq, ht, hG⟩
  exact ⟨p, he, F, G, h.nope ht, hq, fun x hf hg => by have := h.lt x hf; have := hG x hg; omega, h1, fun x hx => Nat.le_trans h2.size (hG x hx), h2.trans ht⟩
theorem two_step {F G F' : Nat → Prop} (h1 : Tw w F l t) (h2 : Tw w G p k) (h3 : ∀ x, F x → ¬ G x) (h4 : ∀ x, F x → w0.heap.size ≤ x) (h5 : ∀ x, G x → w0.heap.size ≤ x) (h6 : Turn Nope w0 w) (hq : Tw w' F' l t') (hs : Sub w F F') (ht : Turn F w w') : Two w0 w' l p t' k := by
  obtain ⟨h7, h8⟩ := step_own h4 h6 hs ht
  exact ⟨F', G, hq, h2.keep ht (fun x hg hf => h3 x hf hg), fun x hf hg => by rcases hs x hf with h | h; exact h3 x h hg; have := h2.lt x hg; omega, h7, h5, h8⟩
theorem two_len (h : Two w0 w l p t k) : Calls Tryd.prog 29 #[.pointer (some ⟨l, 0, none⟩)] w fun e w' => e = .returned (.int .i64 (t.length : Int)) ∧ w = w' := by
  obtain ⟨F, G, h1, h2, h3, h4, h5, h6⟩ := h
  exact tlen h1
theorem two_put (h : Two w0 w l p t k) (hT : TabAt w0) (v : Int) (hmax : v ≤ 9223372036854775807) (hn : t.length ≤ 1000000) (u : ByteArray) :
    Calls Tryd.prog 23 #[.pointer (some ⟨l, 0, none⟩), .int .i64 v, .string u] w fun e w' => e = .returned (.bool (hasT v t)) ∧ Two w0 w' l p (insT (v, u) t) k := by
  obtain ⟨F, G, h1, h2, h3, h4, h5, h6⟩ := h
  refine (tput h1 v hmax (hT.turn h6) hn u).mono ?_
  rintro e w' ⟨he, F', hq, hs, ht⟩
  exact ⟨he, two_step h1 h2 h3 h4 h5 h6 hq hs ht⟩
theorem two_floor (h : Two w0 w l p t k) (v : Int) : Calls Tryd.prog 27 #[.pointer (some ⟨l, 0, none⟩), .int .i64 v] w fun e w' => e = .returned (floorR (floorT v t)) ∧ Two w0 w' l p t k := by
  have h' := h
  obtain ⟨F, G, h1, h2, h3, h4, h5, h6⟩ := h
  refine (tfloor h1 v).mono ?_
  rintro e w' ⟨he, ht⟩
  exact ⟨he, h'.nope ht⟩
end Go.Proofs.YtdkojpfhmohaeaaDoor.TS
