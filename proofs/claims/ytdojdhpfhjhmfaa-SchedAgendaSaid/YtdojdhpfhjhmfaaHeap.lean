/- A heap, plain: what goes up, what goes down keeps the order. No program. -/
set_option linter.unusedSectionVars false
set_option linter.unusedVariables false
set_option linter.unusedSimpArgs false
namespace Go.Proofs.HeapPlain
section
variable {α : Type} (lt : α → α → Prop) [DecidableRel lt]
/-- Two places change. -/
def sw (f : Nat → α) (i j : Nat) : Nat → α := fun k => if k = i then f j else if k = j then f i else f k
abbrev par (k : Nat) : Nat := (k - 1) / 2
/-- No place goes before the one above it. -/
def Hp (f : Nat → α) (n : Nat) : Prop := ∀ k, 0 < k → k < n → ¬ lt (f k) (f (par k))
/-- A heap but for j, which may go up. -/
def HpUp (f : Nat → α) (n j : Nat) : Prop := (∀ k, 0 < k → k < n → k ≠ j → ¬ lt (f k) (f (par k))) ∧ ∀ k, 0 < k → k < n → par k = j → 0 < j → ¬ lt (f k) (f (par j))
/-- A heap but for i, which may go down. -/
def HpDown (f : Nat → α) (n i : Nat) : Prop := (∀ k, 0 < k → k < n → par k ≠ i → ¬ lt (f k) (f (par k))) ∧ ∀ k, 0 < k → k < n → par k = i → 0 < i → ¬ lt (f k) (f (par i))
def upF (f : Nat → α) (j : Nat) : Nat → α := if h : j = 0 then f else if lt (f j) (f (par j)) then upF (sw f (par j) j) (par j) else f
termination_by j
decreasing_by simp only [par]; omega
/-- The child that goes first. -/
def child (f : Nat → α) (i n : Nat) : Nat := if 2 * i + 2 < n ∧ lt (f (2 * i + 2)) (f (2 * i + 1)) then 2 * i + 2 else 2 * i + 1
theorem child_or (f : Nat → α) (i n : Nat) : child lt f i n = 2 * i + 1 ∨ child lt f i n = 2 * i + 2 ∧ 2 * i + 2 < n := by unfold child; split; exact .inr ⟨rfl, by omega⟩; exact .inl rfl
def downF (f : Nat → α) (i n : Nat) : Nat → α := if h : n ≤ 2 * i + 1 then f else if lt (f (child lt f i n)) (f i) then downF (sw f i (child lt f i n)) (child lt f i n) n else f
termination_by n - i
decreasing_by have := child_or lt f i n; omega
variable (has : ∀ a b, lt a b → ¬ lt b a) (htr : ∀ a b c, ¬ lt b a → ¬ lt c b → ¬ lt c a)
include has htr
theorem up_heap (n : Nat) : ∀ (j : Nat) (f : Nat → α), j < n → HpUp lt f n j → Hp lt (upF lt f j) n := by
  intro j
  induction j using Nat.strongRecOn with
  | _ j ih =>
    intro f hj h
    rw [upF]
    split
    · rename_i h0; subst h0; exact fun k h1 h2 => h.1 k h1 h2 (by omega)
    · rename_i h0
      split
      · rename_i hl
        refine ih (par j) (by simp only [par]; omega) _ (by simp only [par]; omega) ⟨?_, ?_⟩
        · intro k h1 h2 h3
          by_cases hk : k = j
          · subst hk
            simp only [sw, if_true, if_neg h3]
            exact has _ _ hl
          · by_cases hp : par k = par j
            · have e1 : ¬ k = par j := h3
              rw [hp]
              simp only [sw, if_true, if_neg e1, if_neg hk]
              have := h.1 k h1 h2 hk
              rw [hp] at this
              exact htr _ _ _ (has _ _ hl) this
            · by_cases hq : par k = j
              · simp only [sw, if_neg h3, if_neg hk, hq, if_neg (show ¬ j = par j by simp only [par]; omega), if_true]
                exact h.2 k h1 h2 hq (by omega)
              · simp only [sw, if_neg h3, if_neg hk, if_neg hp, if_neg hq]
                exact h.1 k h1 h2 hk
        · intro k h1 h2 h3 h4
          have e1 : ¬ par (par j) = par j := by simp only [par] at *; omega
          have e2 : ¬ par (par j) = j := by simp only [par] at *; omega
          have hb := h.1 (par j) h4 (by simp only [par]; omega) (by simp only [par]; omega)
          by_cases hk : k = j
          · subst hk
            simp only [sw, if_neg e1, if_neg e2, if_true, if_neg (show ¬ k = par k by simp only [par]; omega)]
            exact hb
          · have e3 : ¬ k = par j := by simp only [par] at *; omega
            simp only [sw, if_neg e1, if_neg e2, if_neg hk, if_neg e3]
            have := h.1 k h1 h2 hk
            rw [h3] at this
            exact htr _ _ _ hb this
      · rename_i hl
        intro k h1 h2
        by_cases hk : k = j
        · subst hk; exact hl
        · exact h.1 k h1 h2 hk
theorem child_least (f : Nat → α) (i n k : Nat) (h1 : 0 < k) (h2 : k < n) (h3 : par k = i) : ¬ lt (f k) (f (child lt f i n)) := by
  have hirr : ∀ a, ¬ lt a a := fun a h => has a a h h
  have hk : k = 2 * i + 1 ∨ k = 2 * i + 2 := by simp only [par] at h3; omega
  unfold child
  split
  · rename_i hc
    rcases hk with rfl | rfl
    · exact has _ _ hc.2
    · exact hirr _
  · rename_i hc
    rcases hk with rfl | rfl
    · exact hirr _
    · exact fun hl => hc ⟨h2, hl⟩
theorem down_heap (n : Nat) : ∀ (m i : Nat) (f : Nat → α), n - i ≤ m → HpDown lt f n i → Hp lt (downF lt f i n) n := by
  intro m
  induction m with
  | zero =>
    intro i f hm h
    rw [downF, dif_pos (by omega)]
    exact fun k h1 h2 => h.1 k h1 h2 (by simp only [par]; omega)
  | succ m ih =>
    intro i f hm h
    rw [downF]
    split
    · exact fun k h1 h2 => h.1 k h1 h2 (by simp only [par]; omega)
    · rename_i hn
      have hc := child_or lt f i n
      have hleast := child_least lt has htr f i n
      generalize child lt f i n = j at *
      have hpj : par j = i := by simp only [par]; omega
      have hjn : j < n := by omega
      split
      · rename_i hl
        refine ih j _ (by omega) ⟨?_, ?_⟩
        · intro k h1 h2 h3
          by_cases hk : k = j
          · subst hk
            simp only [sw, hpj, if_true, if_neg (show ¬ k = i by omega)]
            exact has _ _ hl
          · by_cases hp : par k = i
            · have e1 : ¬ k = i := by simp only [par] at hp; omega
              simp only [sw, hp, if_true, if_neg e1, if_neg hk]
              exact hleast k h1 h2 hp
            · by_cases hq : k = i
              · subst hq
                simp only [sw, if_true, if_neg hp, if_neg h3]
                exact h.2 j (by omega) hjn hpj h1
              · simp only [sw, if_neg hq, if_neg hk, if_neg hp, if_neg h3]
                exact h.1 k h1 h2 hp
        · intro k h1 h2 h3 h4
          have e1 : ¬ k = i := by simp only [par] at h3; omega
          have e2 : ¬ k = j := by simp only [par] at h3; omega
          simp only [sw, hpj, if_true, if_neg e1, if_neg e2]
          have := h.1 k h1 h2 (by rw [h3]; omega)
          rw [h3] at this
          exact this
      · rename_i hl
        intro k h1 h2
        by_cases hp : par k = i
        · rw [hp]
          exact htr _ _ _ hl (hleast k h1 h2 hp)
        · exact h.1 k h1 h2 hp
theorem root_least (n : Nat) (f : Nat → α) (h : Hp lt f n) : ∀ k, k < n → ¬ lt (f k) (f 0) := by
  intro k
  induction k using Nat.strongRecOn with
  | _ k ih =>
    intro hk
    by_cases h0 : k = 0
    · subst h0; exact fun h => has _ _ h h
    · exact htr _ _ _ (ih (par k) (by simp only [par]; omega) (by simp only [par]; omega)) (h k (by omega) hk)
end
/-! ### The same on lists -/
section
variable {α : Type} (lt : α → α → Prop) [DecidableRel lt] (d : α)
def swL (l : List α) (i j : Nat) : List α := (l.set i (l.getD j d)).set j (l.getD i d)
theorem swL_length (l : List α) (i j : Nat) : (swL d l i j).length = l.length := by simp [swL]
theorem swL_get (l : List α) (i j : Nat) (hi : i < l.length) (hj : j < l.length) : (fun k => (swL d l i j).getD k d) = sw (fun k => l.getD k d) i j := by
  funext k
  simp only [swL, sw, List.getD_eq_getElem?_getD, List.getElem?_set, List.length_set]
  by_cases h1 : k = j
  · subst h1
    by_cases h2 : k = i
    · subst h2; simp [hj]
    · simp [h2, hj]
  · by_cases h2 : k = i
    · subst h2; simp [h1, hi, Ne.symm h1]
    · simp [h1, h2, Ne.symm h1, Ne.symm h2]
theorem swL_perm (l : List α) (i j : Nat) (hi : i < l.length) (hj : j < l.length) : (swL d l i j).Perm l := by
  have h := Array.swap_perm (xs := l.toArray) (i := i) (j := j) (by simpa using hi) (by simpa using hj)
  have h2 : (l.toArray.swap i j (by simpa using hi) (by simpa using hj)).toList = swL d l i j := by
    simp [Array.swap, swL, List.getD_eq_getElem?_getD, hi, hj]
  have h3 := Array.perm_iff_toList_perm.1 h
  rw [h2] at h3
  simpa using h3
def upL (l : List α) (j : Nat) : List α := if h : j = 0 then l else if lt (l.getD j d) (l.getD (par j) d) then upL (swL d l (par j) j) (par j) else l
termination_by j
decreasing_by simp only [par]; omega
def childL (l : List α) (i n : Nat) : Nat := if 2 * i + 2 < n ∧ lt (l.getD (2 * i + 2) d) (l.getD (2 * i + 1) d) then 2 * i + 2 else 2 * i + 1
theorem childL_eq (l : List α) (i n : Nat) : childL lt d l i n = child lt (fun k => l.getD k d) i n := rfl
def downL (l : List α) (i n : Nat) : List α := if h : n ≤ 2 * i + 1 then l else if lt (l.getD (childL lt d l i n) d) (l.getD i d) then downL (swL d l i (childL lt d l i n)) (childL lt d l i n) n else l
termination_by n - i
decreasing_by have := child_or lt (fun k => l.getD k d) i n; rw [← childL_eq] at this; omega
theorem upL_get : ∀ (j : Nat) (l : List α), j < l.length → (fun k => (upL lt d l j).getD k d) = upF lt (fun k => l.getD k d) j ∧ (upL lt d l j).Perm l := by
  intro j
  induction j using Nat.strongRecOn with
  | _ j ih =>
    intro l hj
    rw [upL, upF]
    split
    · exact ⟨rfl, List.Perm.refl _⟩
    · rename_i h0
      have hp : par j < j := by simp only [par]; omega
      split
      · obtain ⟨h1, h2⟩ := ih (par j) hp (swL d l (par j) j) (by rw [swL_length]; omega)
        rw [swL_get d l (par j) j (by omega) hj] at h1
        exact ⟨h1, h2.trans (swL_perm d l (par j) j (by omega) hj)⟩
      · exact ⟨rfl, List.Perm.refl _⟩
theorem downL_get (n : Nat) : ∀ (m i : Nat) (l : List α), n - i ≤ m → n ≤ l.length → (fun k => (downL lt d l i n).getD k d) = downF lt (fun k => l.getD k d) i n ∧ (downL lt d l i n).Perm l := by
  intro m
  induction m with
  | zero =>
    intro i l hm hn
    rw [downL, downF, dif_pos (by omega), dif_pos (by omega)]
    exact ⟨rfl, List.Perm.refl _⟩
  | succ m ih =>
    intro i l hm hn
    rw [downL, downF]
    split
    · exact ⟨rfl, List.Perm.refl _⟩
    · rename_i h0
      have hc := child_or lt (fun k => l.getD k d) i n
      rw [childL_eq]
      generalize child lt (fun k => l.getD k d) i n = j at *
      split
      · obtain ⟨h1, h2⟩ := ih j (swL d l i j) (by omega) (by rw [swL_length]; exact hn)
        rw [swL_get d l i j (by omega) (by omega)] at h1
        exact ⟨h1, h2.trans (swL_perm d l i j (by omega) (by omega))⟩
      · exact ⟨rfl, List.Perm.refl _⟩
/-- A list that is a heap. -/
def HpL (l : List α) : Prop := Hp lt (fun k => l.getD k d) l.length
theorem Hp.congr {f g : Nat → α} {n : Nat} (h : Hp lt f n) (e : ∀ k, k < n → f k = g k) : Hp lt g n := fun k h1 h2 => by
  rw [← e k h2, ← e (par k) (by simp only [par]; omega)]
  exact h k h1 h2
def pushL (l : List α) (x : α) : List α := upL lt d (l ++ [x]) l.length
/-- The last one goes out behind it changed places with the one at i, and what came to i found its place. -/
def outL (l : List α) (i : Nat) : List α :=
  if l.length - 1 = i then l.take i
  else if l.length - 1 ≤ 2 * i + 1 ∨ ¬ lt ((swL d l i (l.length - 1)).getD (childL lt d (swL d l i (l.length - 1)) i (l.length - 1)) d) ((swL d l i (l.length - 1)).getD i d) then (upL lt d (swL d l i (l.length - 1)) i).take (l.length - 1)
  else (downL lt d (swL d l i (l.length - 1)) i (l.length - 1)).take (l.length - 1)
variable (has : ∀ a b, lt a b → ¬ lt b a) (htr : ∀ a b c, ¬ lt b a → ¬ lt c b → ¬ lt c a)
include has htr
theorem push_law (l : List α) (x : α) (h : HpL lt d l) : HpL lt d (pushL lt d l x) ∧ (pushL lt d l x).Perm (l ++ [x]) := by
  obtain ⟨h1, h2⟩ := upL_get lt d l.length (l ++ [x]) (by simp)
  refine ⟨?_, h2⟩
  have hl : (pushL lt d l x).length = l.length + 1 := by rw [pushL, h2.length_eq]; simp
  unfold HpL
  rw [hl]
  unfold pushL
  rw [h1]
  refine up_heap lt has htr (l.length + 1) l.length _ (by omega) ⟨fun k a b c => ?_, fun k a b c _ => ?_⟩
  · have := h k a (by omega)
    simp only [List.getD_eq_getElem?_getD] at this ⊢
    rw [List.getElem?_append_left (by omega), List.getElem?_append_left (by simp only [par]; omega)]
    exact this
  · simp only [par] at c; omega
theorem take_perm_cons (l : List α) (n : Nat) (h : l.length = n + 1) : l.Perm (l.getD n d :: l.take n) := by
  have h1 : l = l.take n ++ [l.getD n d] := by
    apply List.ext_getElem?
    intro k
    by_cases hk : k < n
    · rw [List.getElem?_append_left (by simp; omega), List.getElem?_take_of_lt hk]
    · by_cases hk2 : k = n
      · subst hk2
        rw [List.getElem?_append_right (by simp; omega)]
        simp [h, List.getD_eq_getElem?_getD]
      · rw [List.getElem?_eq_none (by omega), List.getElem?_eq_none (by simp; omega)]
  have h2 : (l.take n ++ [l.getD n d]).Perm (l.getD n d :: l.take n) := List.perm_append_comm
  rw [← h1] at h2
  exact h2
theorem upF_far (n : Nat) : ∀ (j : Nat) (f : Nat → α), j < n → upF lt f j n = f n := by
  intro j
  induction j using Nat.strongRecOn with
  | _ j ih =>
    intro f hj
    rw [upF]
    split
    · rfl
    · split
      · rw [ih (par j) (by simp only [par]; omega) _ (by simp only [par]; omega)]
        simp only [sw, if_neg (show ¬ n = par j by simp only [par]; omega), if_neg (show ¬ n = j by omega)]
      · rfl
theorem downF_far (n : Nat) : ∀ (m i : Nat) (f : Nat → α), n - i ≤ m → i < n → downF lt f i n n = f n := by
  intro m
  induction m with
  | zero => intro i f h1 h2; omega
  | succ m ih =>
    intro i f h1 h2
    rw [downF]
    split
    · rfl
    · have hc := child_or lt f i n
      generalize child lt f i n = j at *
      split
      · rw [ih j _ (by omega) (by omega)]
        simp only [sw, if_neg (show ¬ n = i by omega), if_neg (show ¬ n = j by omega)]
      · rfl
theorem out_law (l : List α) (i : Nat) (hi : i < l.length) (h : HpL lt d l) : HpL lt d (outL lt d l i) ∧ l.Perm (l.getD i d :: outL lt d l i) := by
  obtain ⟨n, hn⟩ : ∃ n, l.length = n + 1 := ⟨l.length - 1, by omega⟩
  unfold outL
  rw [hn, Nat.add_sub_cancel]
  have hlast : ∀ (f : Nat → α) (L : List α), (fun k => L.getD k d) = f → L.length = n + 1 → Hp lt f n → f n = l.getD i d → L.Perm l → HpL lt d (L.take n) ∧ l.Perm (l.getD i d :: L.take n) := by
    intro f L hf hL hH hlst hp
    subst hf
    refine ⟨?_, ?_⟩
    · unfold HpL
      rw [List.length_take, hL, Nat.min_eq_left (by omega)]
      refine hH.congr lt fun k hk => ?_
      simp only [List.getD_eq_getElem?_getD]
      rw [List.getElem?_take_of_lt hk]
    · have := take_perm_cons lt d has htr L n hL
      simp only at hlst
      rw [hlst] at this
      exact hp.symm.trans this
  split
  · rename_i he
    subst he
    exact hlast _ l rfl hn (fun k a b => h k a (by rw [hn]; omega)) rfl (List.Perm.refl _)
  · rename_i hne
    have hin : i < n := by omega
    have hg := swL_get d l i n hi (by omega)
    have hsl : (swL d l i n).length = n + 1 := by rw [swL_length, hn]
    have hfn : sw (fun k => l.getD k d) i n n = l.getD i d := by simp only [sw, if_neg (show ¬ n = i by omega), if_true]
    have hold : ∀ k, k < n → k ≠ i → sw (fun k => l.getD k d) i n k = l.getD k d := fun k h1 h2 => by simp only [sw, if_neg h2, if_neg (show ¬ k = n by omega)]
    have hpar : ∀ k, 0 < k → k < n → k ≠ i → par k ≠ i → ¬ lt (sw (fun k => l.getD k d) i n k) (sw (fun k => l.getD k d) i n (par k)) := fun k a b c e => by
      rw [hold k b c, hold (par k) (by simp only [par]; omega) e]
      exact h k a (by rw [hn]; omega)
    have hgrand : ∀ k, 0 < k → k < n → par k = i → 0 < i → ¬ lt (sw (fun k => l.getD k d) i n k) (sw (fun k => l.getD k d) i n (par i)) := fun k a b c e => by
      rw [hold k b (by simp only [par] at c; omega), hold (par i) (by simp only [par]; omega) (by simp only [par]; omega)]
      have h1 := h k a (by rw [hn]; omega)
      rw [c] at h1
      exact htr _ _ _ (h i e (by rw [hn]; omega)) h1
    rw [childL_eq, show (swL d l i n).getD (child lt (fun k => (swL d l i n).getD k d) i n) d = (fun k => (swL d l i n).getD k d) (child lt (fun k => (swL d l i n).getD k d) i n) from rfl, show (swL d l i n).getD i d = (fun k => (swL d l i n).getD k d) i from rfl, hg]
    have hleast := child_least lt has htr (sw (fun k => l.getD k d) i n) i n
    have hc := child_or lt (sw (fun k => l.getD k d) i n) i n
    split
    · rename_i hno
      obtain ⟨u1, u2⟩ := upL_get lt d i (swL d l i n) (by rw [hsl]; omega)
      rw [hg] at u1
      refine hlast _ _ u1 (by rw [u2.length_eq, hsl]) (up_heap lt has htr n i _ hin ⟨fun k a b c => ?_, hgrand⟩) (by rw [upF_far lt has htr n i _ hin]; exact hfn) (u2.trans (swL_perm d l i n hi (by omega)))
      by_cases hp : par k = i
      · rcases hno with hno | hno
        · simp only [par] at hp; omega
        · rw [hp]; exact htr _ _ _ hno (hleast k a b hp)
      · exact hpar k a b c hp
    · rename_i hyes
      have hy1 : ¬ n ≤ 2 * i + 1 := fun e => hyes (.inl e)
      have hy2 : lt (sw (fun k => l.getD k d) i n (child lt (sw (fun k => l.getD k d) i n) i n)) (sw (fun k => l.getD k d) i n i) := Decidable.not_not.1 (fun e => hyes (.inr e))
      obtain ⟨u1, u2⟩ := downL_get lt d n (n - i) i (swL d l i n) (Nat.le_refl _) (by rw [hsl]; omega)
      rw [hg] at u1
      refine hlast _ _ u1 (by rw [u2.length_eq, hsl]) (down_heap lt has htr n (n - i) i _ (Nat.le_refl _) ⟨fun k a b c => ?_, hgrand⟩) (by rw [downF_far lt has htr n (n - i) i _ (Nat.le_refl _) hin]; exact hfn) (u2.trans (swL_perm d l i n hi (by omega)))
      by_cases hk : k = i
      · subst hk
        have hcp : par (child lt (sw (fun q => l.getD q d) k n) k n) = k := by simp only [par]; omega
        have h1 := hgrand (child lt (sw (fun q => l.getD q d) k n) k n) (by omega) (by omega) hcp a
        exact htr _ _ _ h1 (has _ _ hy2)
      · exact hpar k a b hk c
end
end Go.Proofs.HeapPlain
