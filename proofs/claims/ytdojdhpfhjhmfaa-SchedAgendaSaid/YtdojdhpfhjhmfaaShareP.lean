/- As many turns as its pace goes into the tick: plain; the count of turns in memory. -/
import Derived.Test.YtdojdhpfhjhmfaaSargs
set_option maxRecDepth 16000
set_option linter.unusedVariables false
namespace Go.Proofs.Ytdojdhpfhjhmfaa
open Go.RowKit Go.Maps
def cntI (L : List Int) (x : Int) : Nat := L.count x
theorem cntI_snoc (L : List Int) (y x : Int) : cntI (L ++ [y]) x = cntI L x + if x = y then 1 else 0 := by
  unfold cntI
  rw [List.count_append]
  by_cases h : x = y
  · subst h; simp
  · have e : List.count x [y] = 0 := List.count_eq_zero.2 (by simpa using h)
    rw [if_neg h, e]
theorem cntI_le (L : List Int) (x : Int) : cntI L x ≤ L.length := List.count_le_length
/-- What has been shared out. -/
structure Shr (P : List Int) (L : List Int) (S : Stt) : Prop where
  ok : Okay P S.t S.l S.n
  rises : Rises S.l
  once : S.l.Pairwise fun a b => a.2 ≠ b.2
  due : ∀ x ∈ S.l, ∃ (j : Nat) (p : Int), x.2 = (j : Int) ∧ P[j]? = some p ∧ 0 < p ∧ x.1 = p * ((cntI L x.2 : Nat) + 1)
  all : ∀ (j : Nat) (p : Int), P[j]? = some p → 0 < p → ∃ x ∈ S.l, x.2 = (j : Int)
  low : ∀ (j : Nat) (p : Int), P[j]? = some p → 0 < p → p * (cntI L (j : Int) : Nat) ≤ S.t
  none : ∀ (j : Nat), P[j]? = some 0 → cntI L (j : Int) = 0
theorem insR_once {x : Thing} : ∀ {l : List Thing}, l.Pairwise (fun a b => a.2 ≠ b.2) → (∀ y ∈ l, y.2 ≠ x.2) → (insR x l).Pairwise fun a b => a.2 ≠ b.2
  | [], _, _ => List.pairwise_singleton _ _
  | y :: l, h, hx => by
    rw [List.pairwise_cons] at h
    have h0 := hx y List.mem_cons_self
    unfold insR
    split
    · rw [List.pairwise_cons]
      exact ⟨fun z hz => fun e => hx z hz e.symm, List.pairwise_cons.2 h⟩
    · rw [List.pairwise_cons]
      refine ⟨fun z hz => ?_, insR_once h.2 fun z hz => hx z (List.mem_cons_of_mem _ hz)⟩
      rcases mem_insR hz with rfl | hz
      · exact h0
      · exact h.1 z hz
theorem insR_rises {x : Thing} : ∀ {l : List Thing}, Rises l → Rises (insR x l)
  | [], _ => List.pairwise_singleton _ _
  | y :: l, h => by
    have h' := h
    unfold Rises at h
    rw [List.pairwise_cons] at h
    unfold insR
    split
    · rename_i hl
      unfold Rises
      rw [List.pairwise_cons]
      refine ⟨fun z hz => ?_, h'⟩
      rcases List.mem_cons.1 hz with rfl | hz
      · exact Int.le_of_lt hl
      · exact Int.le_trans (Int.le_of_lt hl) (h.1 z hz)
    · rename_i hl
      unfold Rises
      rw [List.pairwise_cons]
      refine ⟨fun z hz => ?_, insR_rises h.2⟩
      rcases mem_insR hz with rfl | hz
      · omega
      · exact h.1 z hz
theorem mem_insR' {x y : Thing} {l : List Thing} (h : y = x ∨ y ∈ l) : y ∈ insR x l := (insR_perm x l).mem_iff.2 (List.mem_cons.2 h)
theorem Shr.step {P L : List Int} {S S' : Stt} {who : Int} (h : Shr P L S) (hs : stepT P S = some (who, S')) : Shr P (L ++ [who]) S' := by
  obtain ⟨hok, hmono, hj0⟩ := okay_step h.ok h.rises hs
  have h0 := h
  unfold stepT at hs
  rcases hS : S.l with _ | ⟨⟨t1, u⟩, l⟩
  · rw [hS] at hs; cases hs
  rw [hS] at hs
  injection hs with hs
  injection hs with h1 h2
  subst h1
  have hr : Rises ((t1, u) :: l) := by rw [← hS]; exact h.rises
  have ho : ((t1, u) :: l).Pairwise fun a b => a.2 ≠ b.2 := by rw [← hS]; exact h.once
  have hr1 := List.pairwise_cons.1 hr
  have ho1 := List.pairwise_cons.1 ho
  have hd : ∀ x ∈ (t1, u) :: l, ∃ (j : Nat) (p : Int), x.2 = (j : Int) ∧ P[j]? = some p ∧ 0 < p ∧ x.1 = p * ((cntI L x.2 : Nat) + 1) := by rw [← hS]; exact h.due
  obtain ⟨j, p, e1, hp, hp0, ht⟩ := hd _ List.mem_cons_self
  have e1 : u = (j : Int) := e1
  subst e1
  have ht : t1 = p * ((cntI L (j : Int) : Nat) + 1) := ht
  have hpa : paceAt P (j : Int) = p := by
    unfold paceAt
    rw [Int.toNat_natCast, List.getD_eq_getElem?_getD, hp]; rfl
  have hl' : S'.l = insR (t1 + p, (j : Int)) l := by
    rw [← h2]
    show dueL t1 (paceAt P (j : Int)) (j : Int).toNat l = _
    rw [hpa, Int.toNat_natCast]
    unfold dueL
    rw [if_pos hp0]
  have ht' : S'.t = t1 := by rw [← h2]
  have hcj : cntI (L ++ [(j : Int)]) (j : Int) = cntI L (j : Int) + 1 := by rw [cntI_snoc, if_pos rfl]
  have hco : ∀ x : Int, x ≠ (j : Int) → cntI (L ++ [(j : Int)]) x = cntI L x := fun x hx => by rw [cntI_snoc, if_neg hx]; rfl
  have hst : S.t ≤ t1 := h.ok.at0 _ (by rw [hS]; exact List.mem_cons_self)
  have hmul : p * (((cntI L (j : Int) + 1 : Nat) : Int) + 1) = t1 + p := by
    rw [ht, Int.mul_add, Int.mul_one]
    have : ((cntI L (j : Int) + 1 : Nat) : Int) = (cntI L (j : Int) : Int) + 1 := by omega
    rw [this]
  refine ⟨hok, ?_, ?_, ?_, ?_, ?_, ?_⟩
  · rw [hl']; exact insR_rises hr1.2
  · rw [hl']; exact insR_once ho1.2 fun y hy => (ho1.1 y hy).symm
  · intro x hx
    rw [hl'] at hx
    rcases mem_insR hx with rfl | hx
    · refine ⟨j, p, rfl, hp, hp0, ?_⟩
      show t1 + p = p * (((cntI (L ++ [(j : Int)]) (j : Int) : Nat) : Int) + 1)
      rw [hcj, hmul]
    · obtain ⟨i, pi, ei, hpi, hpi0, hti⟩ := hd x (List.mem_cons_of_mem _ hx)
      refine ⟨i, pi, ei, hpi, hpi0, ?_⟩
      rw [hco _ (ho1.1 x hx).symm]
      exact hti
  · intro i pi hpi hpi0
    obtain ⟨x, hx, ex⟩ := h.all i pi hpi hpi0
    rw [hS] at hx
    rw [hl']
    rcases List.mem_cons.1 hx with rfl | hx
    · exact ⟨_, mem_insR' (.inl rfl), ex⟩
    · exact ⟨x, mem_insR' (.inr hx), ex⟩
  · intro i pi hpi hpi0
    rw [ht']
    by_cases hij : (i : Int) = (j : Int)
    · have : i = j := by omega
      subst this
      rw [hp] at hpi
      injection hpi with hpi
      subst hpi
      rw [hcj, ht]
      have : ((cntI L (i : Int) + 1 : Nat) : Int) = (cntI L (i : Int) : Int) + 1 := by omega
      rw [this]
      exact Int.le_refl _
    · rw [hco _ hij]
      exact Int.le_trans (h.low i pi hpi hpi0) hst
  · intro i hi
    by_cases hij : (i : Int) = (j : Int)
    · have : i = j := by omega
      subst this
      rw [hp] at hi
      injection hi with hi
      omega
    · rw [hco _ hij]
      exact h.none i hi
/-- Behind New. -/
theorem shr_new : ∀ (k : Nat) (P : List Int), P.length = k → (∀ p ∈ P, 0 ≤ p ∧ p ≤ 1048576) → Shr P [] (newS P)
  | 0, P, hk, hP => by
    have : P = [] := List.length_eq_zero_iff.1 hk
    subst this
    exact ⟨Okay.new [] hP, List.Pairwise.nil, List.Pairwise.nil, (fun _ h => by cases h), (fun j p h => by simp at h), (fun j p h => by simp at h), (fun j h => by simp at h)⟩
  | k + 1, P, hk, hP => by
    have hall := okay_newT (k + 1) P hk hP
    rcases List.eq_nil_or_concat P with rfl | ⟨L, b, rfl⟩
    · cases hk
    · rw [List.concat_eq_append] at *
      have hL : L.length = k := by simpa using hk
      have ih := shr_new k L hL fun p hp => hP p (List.mem_append_left _ hp)
      have hb := hP b (by simp)
      have hl : (newS (L ++ [b])).l = dueL 0 b L.length (newS L).l := by
        show (newT (L ++ [b])).2.1 = _
        rw [newT_add, (newT_len L).1]; rfl
      have hold : ∀ {j : Nat} {p : Int}, L[j]? = some p → (L ++ [b])[j]? = some p := fun {j p} h => by
        rw [List.getElem?_append_left (List.getElem?_eq_some_iff.1 h).1]; exact h
      have hnew : (L ++ [b])[L.length]? = some b := by rw [List.getElem?_append_right (Nat.le_refl _), Nat.sub_self]; rfl
      have hlt : ∀ x ∈ (newS L).l, x.2 ≠ ((L.length : Nat) : Int) := fun x hx e => by
        obtain ⟨j, e1, hj⟩ := ih.ok.who x hx
        omega
      have hinv : ∀ {j : Nat} {p : Int}, (L ++ [b])[j]? = some p → L[j]? = some p ∨ j = L.length ∧ p = b := fun {j p} h => by
        rcases Nat.lt_or_ge j L.length with hj | hj
        · rw [List.getElem?_append_left hj] at h; exact .inl h
        · rw [List.getElem?_append_right hj] at h
          have h1 := (List.getElem?_eq_some_iff.1 h).1
          have h2 : j = L.length := by simp at h1; omega
          subst h2
          rw [Nat.sub_self] at h
          injection h with h
          exact .inr ⟨rfl, h.symm⟩
      refine ⟨hall, ?_, ?_, ?_, ?_, ?_, ?_⟩
      · rw [hl]; unfold dueL; split
        · exact insR_rises ih.rises
        · exact ih.rises
      · rw [hl]; unfold dueL; split
        · exact insR_once ih.once hlt
        · exact ih.once
      · intro x hx
        have hold' : x ∈ (newS L).l → ∃ (j : Nat) (p : Int), x.2 = (j : Int) ∧ (L ++ [b])[j]? = some p ∧ 0 < p ∧ x.1 = p * ((cntI [] x.2 : Nat) + 1) := fun hx => by
          obtain ⟨j, p, e, hp, hp0, ht⟩ := ih.due x hx
          exact ⟨j, p, e, hold hp, hp0, ht⟩
        rw [hl] at hx
        unfold dueL at hx
        split at hx
        · rename_i hpos
          rcases mem_insR hx with rfl | hx
          · refine ⟨L.length, b, rfl, hnew, hpos, ?_⟩
            show 0 + b = b * (((0 : Nat) : Int) + 1)
            rw [Int.natCast_zero, Int.zero_add, Int.zero_add, Int.mul_one]
          · exact hold' hx
        · exact hold' hx
      · intro j p hj hp
        rw [hl]
        unfold dueL
        rcases hinv hj with hj | ⟨rfl, rfl⟩
        · obtain ⟨x, hx, ex⟩ := ih.all j p hj hp
          split
          · exact ⟨x, mem_insR' (.inr hx), ex⟩
          · exact ⟨x, hx, ex⟩
        · rw [if_pos hp]
          exact ⟨_, mem_insR' (.inl rfl), rfl⟩
      · intro j p hj hp
        show p * ((0 : Nat) : Int) ≤ 0
        rw [Int.natCast_zero, Int.mul_zero]; exact Int.le_refl _
      · intro j hj; rfl
/-- What the law asks at the end. -/
theorem Shr.asks {P L : List Int} {S : Stt} (h : Shr P L S) {j : Nat} {p : Int} (hp : P[j]? = some p) (hp0 : 0 < p) :
    ¬ (S.t.tdiv p < ((cntI L (j : Int) : Nat) : Int)) ∧ ¬ (((cntI L (j : Int) : Nat) : Int) < (S.t - 1).tdiv p) := by
  have h1 := h.low j p hp hp0
  obtain ⟨x, hx, ex⟩ := h.all j p hp hp0
  obtain ⟨i, pi, ei, hpi, _, ht⟩ := h.due x hx
  have : i = j := by omega
  subst this
  rw [hp] at hpi
  injection hpi with hpi
  subst hpi
  have h2 := h.ok.at0 x hx
  rw [ht, ex] at h2
  have h3 := h.ok.t0
  have hc : 0 ≤ ((cntI L (i : Int) : Nat) : Int) := by omega
  generalize ((cntI L (i : Int) : Nat) : Int) = c at *
  have hm : p * (c + 1) = p * c + p := by rw [Int.mul_add, Int.mul_one]
  rw [hm] at h2
  refine ⟨fun h4 => ?_, fun h4 => ?_⟩
  · rw [Int.tdiv_eq_ediv_of_nonneg h3] at h4
    have := (Int.ediv_lt_iff_lt_mul hp0).1 h4
    rw [Int.mul_comm] at this
    omega
  · rcases Int.lt_or_le (S.t - 1) 0 with h5 | h5
    · have : S.t = 0 := by omega
      rw [this] at h4 h1 h2
      have hc0 : p * c ≤ 0 := h1
      have h8 : (0 - 1 : Int).tdiv p ≤ 0 := by
        rw [show (0 - 1 : Int) = -(1 : Int) by rfl, Int.neg_tdiv, Int.tdiv_eq_ediv_of_nonneg (by omega)]
        have := Int.ediv_nonneg (a := 1) (b := p) (by omega) (by omega)
        omega
      omega
    · rw [Int.tdiv_eq_ediv_of_nonneg h5] at h4
      have h6 : (c + 1) * p ≤ S.t - 1 := (Int.le_ediv_iff_mul_le hp0).1 (by omega)
      rw [Int.mul_comm, hm] at h6
      omega
end Go.Proofs.Ytdojdhpfhjhmfaa
