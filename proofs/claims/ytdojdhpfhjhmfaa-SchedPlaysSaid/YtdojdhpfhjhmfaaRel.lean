/- A schedule and the document's, plain: what is due, sorted. -/
import Derived.Test.YtdojdhpfhjhmfaaR17n
import Derived.Test.YtdojdhpfhjhmfaaSetW
set_option linter.unusedVariables false
set_option linter.unusedSimpArgs false
namespace Go.Proofs.Ytdojdhpfhjhmfaa
open Go.RowKit
def thO (x : One3) : Thing := (x.at_, x.who)
def insO (x : One3) : List One3 → List One3
  | [] => [x]
  | y :: l => if x.at_ < y.at_ then x :: y :: l else y :: insO x l
theorem insO_map (x : One3) : ∀ M : List One3, (insO x M).map thO = insR (thO x) (M.map thO)
  | [] => rfl
  | y :: l => by
    show (if x.at_ < y.at_ then x :: y :: l else y :: insO x l).map thO = if (thO x).1 < (thO y).1 then thO x :: thO y :: l.map thO else thO y :: insR (thO x) (l.map thO)
    have h1 : ((thO x).1 < (thO y).1) = (x.at_ < y.at_) := rfl
    by_cases h : x.at_ < y.at_
    · rw [if_pos h, if_pos (by rw [h1]; exact h)]; rfl
    · rw [if_neg h, if_neg (by rw [h1]; exact h), List.map_cons, insO_map x l]
theorem insO_perm (x : One3) : ∀ M : List One3, (insO x M).Perm (x :: M)
  | [] => List.Perm.refl _
  | y :: l => by
    unfold insO
    split
    · exact List.Perm.refl _
    · exact ((insO_perm x l).cons y).trans (List.Perm.swap x y l)
theorem lessO_tr {x y z : One3} (h : lessO x y) (k : lessO y z) : lessO x z := by unfold lessO at *; omega
theorem insO_sorted (x : One3) : ∀ M : List One3, M.Pairwise lessO → (∀ y ∈ M, y.since < x.since) → (insO x M).Pairwise lessO
  | [], _, _ => List.pairwise_singleton _ _
  | y :: l, h, hs => by
    obtain ⟨h1, h2⟩ := List.pairwise_cons.1 h
    unfold insO
    split
    · rename_i hlt
      refine List.pairwise_cons.2 ⟨fun z hz => ?_, h⟩
      have hxy : lessO x y := Or.inl hlt
      rcases List.mem_cons.1 hz with rfl | hz
      · exact hxy
      · exact lessO_tr hxy (h1 z hz)
    · rename_i hge
      refine List.pairwise_cons.2 ⟨fun z hz => ?_, insO_sorted x l h2 fun y hy => hs y (List.mem_cons_of_mem _ hy)⟩
      rcases List.mem_cons.1 ((insO_perm x l).mem_iff.1 hz) with rfl | hz
      · have := hs y List.mem_cons_self
        unfold lessO; omega
      · exact h1 z hz
/-- The schedule's state is the document's, sorted. -/
structure Rel (S : Stt) (L : List One3) (t c : Int) : Prop where
  tick : S.t = t
  ex : ∃ M : List One3, M.Perm L ∧ M.Pairwise lessO ∧ S.l = M.map thO
  since : ∀ x ∈ L, x.since ≤ c
  nd : L.Pairwise fun x y => x.who ≠ y.who
theorem Rel.len {S : Stt} {L : List One3} {t c : Int} (h : Rel S L t c) : S.l.length = L.length := by
  obtain ⟨M, h1, _, h3⟩ := h.ex
  rw [h3, List.length_map, h1.length_eq]
theorem Rel.due {S : Stt} {L : List One3} {t c : Int} (h : Rel S L t c) (P : List Int) (j : Nat) (p : Int) (hj : ∀ x ∈ L, x.who ≠ (j : Int)) :
    Rel ⟨S.t, dueL S.t p j S.l, dueN p S.n⟩ (dueR P L t c j p) t (c + 1) := by
  obtain ⟨M, h1, h2, h3⟩ := h.ex
  unfold dueL dueR
  by_cases hp : 0 < p
  · rw [if_pos hp, if_pos hp]
    refine ⟨h.tick, ⟨insO ⟨(j : Int), t + p, c + 1⟩ M, ?_, ?_, ?_⟩, ?_, ?_⟩
    · exact ((insO_perm _ M).trans (h1.cons _)).trans (List.perm_append_singleton _ L).symm
    · exact insO_sorted _ M h2 fun y hy => by
        have := h.since y (h1.mem_iff.1 hy)
        show y.since < c + 1
        omega
    · rw [insO_map, h3, h.tick]; rfl
    · intro x hx
      rcases List.mem_append.1 hx with hx | hx
      · have := h.since x hx; omega
      · rw [List.mem_singleton.1 hx]; exact Int.le_refl _
    · refine List.pairwise_append.2 ⟨h.nd, List.pairwise_singleton _ _, fun x hx y hy => ?_⟩
      rw [List.mem_singleton.1 hy]
      exact hj x hx
  · rw [if_neg hp, if_neg hp]
    exact ⟨h.tick, ⟨M, h1, h2, h3⟩, fun x hx => by have := h.since x hx; omega, h.nd⟩
theorem notOf_map (who : Int) (M : List One3) : notOfT who (M.map thO) = (rdropL who M).map thO := by
  unfold notOfT rdropL
  rw [List.filter_map]
  congr 1
  apply List.filter_congr
  intro x _
  show decide (x.who ≠ who) = (x.who != who)
  by_cases h : x.who = who
  · simp [h]
  · simp [h]
theorem Rel.drop {S : Stt} {L : List One3} {t c : Int} (h : Rel S L t c) (who : Int) : Rel ⟨S.t, notOfT who S.l, S.n⟩ (rdropL who L) t c := by
  obtain ⟨M, h1, h2, h3⟩ := h.ex
  refine ⟨h.tick, ⟨rdropL who M, h1.filter _, h2.filter _, ?_⟩, fun x hx => h.since x (List.mem_filter.1 hx).1, h.nd.filter _⟩
  show notOfT who S.l = _
  rw [h3, notOf_map]
theorem rdrop_who (who : Int) (L : List One3) : ∀ x ∈ rdropL who L, x.who ≠ who := by
  intro x hx
  have := (List.mem_filter.1 hx).2
  simpa using this
theorem Rel.set {S : Stt} {L : List One3} {t c : Int} (h : Rel S L t c) (P : List Int) (j : Nat) (p : Int) : Rel (setT S j p) (dueR P (rdropL (j : Int) L) t c j (paceOf p)) t (c + 1) :=
  (h.drop (j : Int)).due P j (paceOf p) (rdrop_who _ _)
theorem Rel.idle {S : Stt} {L : List One3} {t c : Int} (h : Rel S L t c) (P : List Int) (hs : stepT P S = none) : L = [] := by
  have hl := h.len
  unfold stepT at hs
  rcases hS : S.l with _ | ⟨⟨t1, u⟩, l⟩
  · rw [hS] at hl
    exact List.length_eq_zero_iff.1 hl.symm
  · rw [hS] at hs; cases hs
theorem Rel.pick {S S' : Stt} {L : List One3} {t c who : Int} (h : Rel S L t c) (P : List Int) (hs : stepT P S = some (who, S')) :
    ∃ k z, IsMin L k z ∧ z.who = who ∧ S'.t = z.at_ ∧ ∀ j : Nat, who = (j : Int) → Rel S' (dueR P (rdropL who L) z.at_ c j (paceAt P who)) z.at_ (c + 1) := by
  obtain ⟨M, h1, h2, h3⟩ := h.ex
  unfold stepT at hs
  rcases M with _ | ⟨z, M'⟩
  · rw [h3] at hs; cases hs
  · rw [h3] at hs
    have hs : some (z.who, (⟨z.at_, dueL z.at_ (paceAt P z.who) z.who.toNat (M'.map thO), dueN (paceAt P z.who) S.n⟩ : Stt)) = some (who, S') := hs
    injection hs with hs
    injection hs with hw hS
    obtain ⟨hz1, hz2⟩ := List.pairwise_cons.1 h2
    have hzL : z ∈ L := h1.mem_iff.1 List.mem_cons_self
    obtain ⟨k, hk, hkz⟩ := List.getElem_of_mem hzL
    have hkz' : L[k]? = some z := by rw [List.getElem?_eq_getElem hk, hkz]
    have hndM : (z :: M').Pairwise fun x y => x.who ≠ y.who := (h1.pairwise_iff (fun {x y} h => Ne.symm h)).2 h.nd
    obtain ⟨hn1, hn2⟩ := List.pairwise_cons.1 hndM
    have hdrop : (rdropL who L).Perm M' := by
      have h5 := h1.symm.filter fun x => x.who != who
      have h6 : (z :: M').filter (fun x => x.who != who) = M' := by
        rw [List.filter_cons_of_neg (by simp [hw])]
        refine List.filter_eq_self.2 fun x hx => ?_
        have := hn1 x hx
        rw [hw] at this
        simp only [bne_iff_ne, ne_eq]
        exact fun e => this e.symm
      rw [h6] at h5
      exact h5
    refine ⟨k, z, ⟨hkz', fun j y hy hjk => ?_⟩, hw, by rw [← hS], fun j hj => ?_⟩
    · have hyM := h1.mem_iff.2 (List.mem_of_getElem? hy)
      rcases List.mem_cons.1 hyM with rfl | hyM
      · exfalso
        obtain ⟨hj, hjy⟩ := List.getElem?_eq_some_iff.1 hy
        have hp := List.pairwise_iff_getElem.1 h.nd
        rcases Nat.lt_or_ge j k with hlt | hge
        · exact hp j k hj hk hlt (by rw [hjy, hkz])
        · exact hp k j hk hj (by omega) (by rw [hjy, hkz])
      · exact hz1 y hyM
    · have hR : Rel ⟨z.at_, M'.map thO, S.n⟩ (rdropL who L) z.at_ c :=
        ⟨rfl, ⟨M', hdrop.symm, hz2, rfl⟩, fun x hx => h.since x (List.mem_filter.1 hx).1, h.nd.filter _⟩
      have h7 := hR.due P j (paceAt P who) (fun x hx => by rw [← hj]; exact rdrop_who who L x hx)
      rw [← hS, hw, hj, Int.toNat_natCast]
      rw [hj] at h7
      exact h7
end Go.Proofs.Ytdojdhpfhjhmfaa
