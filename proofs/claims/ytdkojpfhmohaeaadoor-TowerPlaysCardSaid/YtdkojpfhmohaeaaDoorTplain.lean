/- Towers, plain: which node comes next on each level, behind a node that came in, behind one that went. No program. -/
set_option linter.unusedVariables false
namespace Go.Proofs.TowerPlain
/-- A node: its block, its row's, its version, what is kept, how high it is. -/
structure Nd (α : Type) where
  b : Nat
  r : Nat
  vs : Int
  v : α
  h : Nat
variable {α : Type}
def nxt (h : Nat) (post : List (Nd α)) : Option Nat := (post.find? fun y => decide (h < y.h)).map (·.b)
theorem nxt_low {h : Nat} {s : List (Nd α)} (hs : ∀ y ∈ s, y.h ≤ h) (t : List (Nd α)) : nxt h (s ++ t) = nxt h t := by
  unfold nxt
  rw [List.find?_append]
  have : s.find? (fun y => decide (h < y.h)) = none := List.find?_eq_none.2 fun y hy => by have := hs y hy; simp; omega
  rw [this]; rfl
theorem nxt_cons {h : Nat} {x : Nd α} {t : List (Nd α)} (hx : h < x.h) : nxt h (x :: t) = some x.b := by
  unfold nxt; rw [List.find?_cons_of_pos (by simpa using hx)]; rfl
theorem nxt_skip {h : Nat} {x : Nd α} {t : List (Nd α)} (hx : x.h ≤ h) : nxt h (x :: t) = nxt h t := by
  unfold nxt; rw [List.find?_cons_of_neg (by simp; omega)]
theorem nxt_has {h : Nat} {s : List (Nd α)} {z : Nd α} (hz : z ∈ s) (hh : h < z.h) (t t' : List (Nd α)) : nxt h (s ++ t) = nxt h (s ++ t') := by
  unfold nxt
  rw [List.find?_append, List.find?_append]
  cases hf : s.find? (fun y => decide (h < y.h)) with
  | none => have := List.find?_eq_none.1 hf z hz; simp at this; omega
  | some y => rfl
/-- Each node's row leads to the next one on each level. -/
def Links (f : Nat → Nat → Option Nat) (L : List (Nd α)) : Prop := ∀ pre x post, L = pre ++ x :: post → ∀ h, h < x.h → f x.b h = nxt h post
/-- The last one of A that is higher than h. -/
def Bef (A : List (Nd α)) (h b : Nat) : Prop := ∃ pre z suf, A = pre ++ z :: suf ∧ z.b = b ∧ h < z.h ∧ ∀ y ∈ suf, y.h ≤ h
def Bs (L : List (Nd α)) : List Nat := L.map (·.b)
theorem nodup_split {A : List (Nd α)} {p1 p2 s1 s2 : List (Nd α)} {y z : Nd α} (hn : (Bs A).Nodup) (h1 : A = p1 ++ y :: s1) (h2 : A = p2 ++ z :: s2) (hb : y.b = z.b) : p1 = p2 ∧ y = z ∧ s1 = s2 := by
  subst h1
  induction p1 generalizing p2 with
  | nil =>
    cases p2 with
    | nil => simp at h2; exact ⟨rfl, h2⟩
    | cons c p2 =>
      simp only [List.nil_append, List.cons_append, List.cons.injEq] at h2
      obtain ⟨rfl, rfl⟩ := h2
      simp only [Bs, List.nil_append, List.map_cons, List.map_append, List.nodup_cons, List.mem_append, List.mem_cons] at hn
      exact absurd (.inr (.inl hb)) hn.1
  | cons c p1 ih =>
    cases p2 with
    | nil =>
      simp only [List.nil_append, List.cons_append, List.cons.injEq] at h2
      obtain ⟨rfl, rfl⟩ := h2
      simp only [Bs, List.cons_append, List.map_cons, List.map_append, List.nodup_cons, List.mem_append, List.mem_cons] at hn
      exact absurd (.inr (.inl hb.symm)) hn.1
    | cons c' p2 =>
      simp only [List.cons_append, List.cons.injEq] at h2
      obtain ⟨rfl, h2⟩ := h2
      obtain ⟨e1, e2, e3⟩ := ih (by simp only [Bs, List.cons_append, List.map_cons, List.nodup_cons] at hn ⊢; exact hn.2) h2
      exact ⟨by rw [e1], e2, e3⟩
theorem split_app {A B pre post : List (Nd α)} {y : Nd α} (h : A ++ B = pre ++ y :: post) : (∃ s, A = pre ++ y :: s ∧ post = s ++ B) ∨ ∃ p, B = p ++ y :: post ∧ pre = A ++ p := by
  rcases List.append_eq_append_iff.1 h with ⟨a, h1, h2⟩ | ⟨a, h1, h2⟩
  · exact .inr ⟨a, h2, h1⟩
  · cases a with
    | nil => exact .inr ⟨[], by simpa using h2.symm, by simpa using h1.symm⟩
    | cons c a =>
      simp only [List.cons_append, List.cons.injEq] at h2
      obtain ⟨rfl, h2⟩ := h2
      exact .inl ⟨a, h1, h2⟩
/-- Two nodes of one list with one row higher than h: the other one stands behind y. -/
theorem bef_later {A : List (Nd α)} {h b : Nat} (hn : (Bs A).Nodup) (hb : Bef A h b) {p s : List (Nd α)} {y : Nd α} (he : A = p ++ y :: s) (hy : h < y.h) (hne : y.b ≠ b) : ∃ z ∈ s, h < z.h := by
  obtain ⟨pre, z, suf, h1, rfl, h3, h4⟩ := hb
  rw [h1] at he
  rcases split_app (A := pre) (B := z :: suf) he with ⟨s', e1, e2⟩ | ⟨p', e1, e2⟩
  · exact ⟨z, by rw [e2]; simp, h3⟩
  · cases p' with
    | nil => simp only [List.nil_append, List.cons.injEq] at e1; exact absurd (by rw [e1.1]) hne
    | cons c p' =>
      simp only [List.cons_append, List.cons.injEq] at e1
      have := h4 y (by rw [e1.2]; simp)
      omega
/-- What rows are behind a node came in. -/
def fput (f : Nat → Nat → Option Nat) (g : Nat → Nat) (xb k : Nat) : Nat → Nat → Option Nat := fun b h =>
  if h < k then (if b = xb then f (g h) h else if b = g h then some xb else f b h) else f b h
theorem links_put {f : Nat → Nat → Option Nat} {g : Nat → Nat} {A B : List (Nd α)} {x : Nd α} (hf : Links f (A ++ B)) (hn : (Bs (A ++ B)).Nodup) (hg : ∀ h, h < x.h → Bef A h (g h)) (hx : x.b ∉ Bs (A ++ B)) : Links (fput f g x.b x.h) (A ++ x :: B) := by
  have hnA : (Bs A).Nodup := by unfold Bs at *; rw [List.map_append] at hn; exact (List.nodup_append.1 hn).1
  have hgA : ∀ h, h < x.h → g h ∈ Bs A := fun h hh => by obtain ⟨pre, z, suf, h1, h2, _⟩ := hg h hh; rw [h1, ← h2]; simp [Bs]
  have hdis : ∀ k, k ∈ Bs A → k ∉ Bs B := fun k h1 h2 => by unfold Bs at *; rw [List.map_append] at hn; exact (List.nodup_append.1 hn).2.2 k h1 k h2 rfl
  intro pre y post he h hh
  rcases split_app he with ⟨s, e1, e2⟩ | ⟨p, e1, e2⟩
  · have hy : y.b ∈ Bs A := by rw [e1]; simp [Bs]
    have hyx : y.b ≠ x.b := fun e => hx (by rw [← e]; unfold Bs at *; rw [List.map_append]; exact List.mem_append_left _ hy)
    have hold : f y.b h = nxt h (s ++ B) := hf pre y (s ++ B) (by rw [e1]; simp) h hh
    unfold fput
    rw [e2]
    by_cases hk : h < x.h
    · rw [if_pos hk, if_neg hyx]
      by_cases hgy : y.b = g h
      · rw [if_pos hgy]
        obtain ⟨pre', z, suf, h1, h2, h3, h4⟩ := hg h hk
        obtain ⟨_, _, e3⟩ := nodup_split hnA e1 h1 (hgy.trans h2.symm)
        rw [e3, nxt_low h4, nxt_cons hk]
      · rw [if_neg hgy, hold]
        obtain ⟨z, hz, hzh⟩ := bef_later hnA (hg h hk) e1 hh hgy
        exact nxt_has hz hzh _ _
    · rw [if_neg hk, hold]
      by_cases hs : ∃ z ∈ s, h < z.h
      · obtain ⟨z, hz, hzh⟩ := hs
        exact nxt_has hz hzh _ _
      · have hs' : ∀ z ∈ s, z.h ≤ h := fun z hz => Nat.le_of_not_lt fun hl => hs ⟨z, hz, hl⟩
        rw [nxt_low hs', nxt_low hs', nxt_skip (by omega)]
  · cases p with
    | nil =>
      simp only [List.nil_append, List.cons.injEq] at e1
      obtain ⟨rfl, rfl⟩ := e1
      unfold fput
      rw [if_pos hh, if_pos rfl]
      obtain ⟨pre', z, suf, h1, h2, h3, h4⟩ := hg h hh
      rw [← h2, hf pre' z (suf ++ B) (by rw [h1]; simp) h h3, nxt_low h4]
    | cons c p =>
      simp only [List.cons_append, List.cons.injEq] at e1
      obtain ⟨rfl, e1⟩ := e1
      have hy : y.b ∈ Bs B := by rw [e1]; simp [Bs]
      have hyx : y.b ≠ x.b := fun e => hx (by rw [← e]; unfold Bs at *; rw [List.map_append]; exact List.mem_append_right _ hy)
      have hold : f y.b h = nxt h post := hf (A ++ p) y post (by rw [e1]; simp) h hh
      unfold fput
      by_cases hk : h < x.h
      · rw [if_pos hk, if_neg hyx, if_neg (fun e => hdis _ (by rw [e]; exact hgA h hk) hy), hold]
      · rw [if_neg hk, hold]
/-- What rows are behind a node went. -/
def fcut (f : Nat → Nat → Option Nat) (g : Nat → Nat) (xb k : Nat) : Nat → Nat → Option Nat := fun b h => if h < k ∧ b = g h then f xb h else f b h
theorem links_cut {f : Nat → Nat → Option Nat} {g : Nat → Nat} {A C : List (Nd α)} {x : Nd α} (hf : Links f (A ++ x :: C)) (hn : (Bs (A ++ x :: C)).Nodup) (hg : ∀ h, h < x.h → Bef A h (g h)) : Links (fcut f g x.b x.h) (A ++ C) := by
  have hnA : (Bs A).Nodup := by unfold Bs at *; rw [List.map_append] at hn; exact (List.nodup_append.1 hn).1
  have hgA : ∀ h, h < x.h → g h ∈ Bs A := fun h hh => by obtain ⟨pre, z, suf, h1, h2, _⟩ := hg h hh; rw [h1, ← h2]; simp [Bs]
  have hdis : ∀ k, k ∈ Bs A → k ∉ Bs C := fun k h1 h2 => by
    unfold Bs at *; rw [List.map_append] at hn; exact (List.nodup_append.1 hn).2.2 k h1 k (by rw [List.map_cons]; exact List.mem_cons_of_mem _ h2) rfl
  intro pre y post he h hh
  rcases split_app he with ⟨s, e1, e2⟩ | ⟨p, e1, e2⟩
  · have hold : f y.b h = nxt h (s ++ x :: C) := hf pre y (s ++ x :: C) (by rw [e1]; simp) h hh
    unfold fcut
    rw [e2]
    by_cases hk : h < x.h
    · by_cases hgy : y.b = g h
      · rw [if_pos ⟨hk, hgy⟩]
        obtain ⟨pre', z, suf, h1, h2, h3, h4⟩ := hg h hk
        obtain ⟨_, _, e3⟩ := nodup_split hnA e1 h1 (hgy.trans h2.symm)
        rw [e3, nxt_low h4]
        exact hf A x C rfl h hk
      · rw [if_neg (fun e => hgy e.2), hold]
        obtain ⟨z, hz, hzh⟩ := bef_later hnA (hg h hk) e1 hh hgy
        exact nxt_has hz hzh _ _
    · rw [if_neg (fun e => hk e.1), hold]
      by_cases hs : ∃ z ∈ s, h < z.h
      · obtain ⟨z, hz, hzh⟩ := hs
        exact nxt_has hz hzh _ _
      · have hs' : ∀ z ∈ s, z.h ≤ h := fun z hz => Nat.le_of_not_lt fun hl => hs ⟨z, hz, hl⟩
        rw [nxt_low hs', nxt_low hs', nxt_skip (by omega)]
  · have hy : y.b ∈ Bs C := by rw [e1]; simp [Bs]
    have hold : f y.b h = nxt h post := hf (A ++ x :: p) y post (by rw [e1]; simp) h hh
    unfold fcut
    rw [if_neg (fun e => hdis _ (by rw [e.2]; exact hgA h e.1) hy), hold]
/-- One place of one row turns. -/
def upd (f : Nat → Nat → Option Nat) (b h : Nat) (u : Option Nat) : Nat → Nat → Option Nat := fun b' h' => if b' = b ∧ h' = h then u else f b' h'
theorem fput_zero (f : Nat → Nat → Option Nat) (g : Nat → Nat) (xb : Nat) : fput f g xb 0 = f := by funext b h; unfold fput; rw [if_neg (Nat.not_lt_zero h)]
theorem fput_step (f : Nat → Nat → Option Nat) (g : Nat → Nat) (xb k : Nat) (hne : g k ≠ xb) : upd (upd (fput f g xb k) xb k (f (g k) k)) (g k) k (some xb) = fput f g xb (k + 1) := by
  funext b h
  unfold upd fput
  by_cases h1 : h = k
  · subst h1
    by_cases h2 : b = g h
    · subst h2
      rw [if_pos ⟨rfl, rfl⟩, if_pos (Nat.lt_succ_self h), if_neg hne, if_pos rfl]
    · rw [if_neg (fun e => h2 e.1)]
      by_cases h3 : b = xb
      · subst h3
        rw [if_pos ⟨rfl, rfl⟩, if_pos (Nat.lt_succ_self h), if_pos rfl]
      · rw [if_neg (fun e => h3 e.1), if_neg (Nat.lt_irrefl h), if_pos (Nat.lt_succ_self h), if_neg h3, if_neg h2]
  · rw [if_neg (fun e => h1 e.2), if_neg (fun e => h1 e.2)]
    by_cases h4 : h < k
    · rw [if_pos h4, if_pos (show h < k + 1 by omega)]
    · rw [if_neg h4, if_neg (show ¬ h < k + 1 by omega)]
theorem fcut_zero (f : Nat → Nat → Option Nat) (g : Nat → Nat) (xb : Nat) : fcut f g xb 0 = f := by funext b h; unfold fcut; rw [if_neg (fun e => Nat.not_lt_zero h e.1)]
theorem fcut_step (f : Nat → Nat → Option Nat) (g : Nat → Nat) (xb k : Nat) : upd (fcut f g xb k) (g k) k (f xb k) = fcut f g xb (k + 1) := by
  funext b h
  unfold upd fcut
  by_cases h1 : h = k
  · subst h1
    by_cases h2 : b = g h
    · rw [if_pos ⟨h2, rfl⟩, if_pos ⟨Nat.lt_succ_self h, h2⟩]
    · rw [if_neg (fun e => h2 e.1), if_neg (fun e => h2 e.2), if_neg (fun e => h2 e.2)]
  · rw [if_neg (fun e => h1 e.2)]
    by_cases h4 : h < k ∧ b = g h
    · rw [if_pos h4, if_pos ⟨by omega, h4.2⟩]
    · rw [if_neg h4, if_neg (fun e => h4 ⟨by omega, e.2⟩)]
end Go.Proofs.TowerPlain
