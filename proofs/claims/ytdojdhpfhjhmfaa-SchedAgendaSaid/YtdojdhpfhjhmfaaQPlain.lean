/- A queue's things in their order, plain. -/
import Derived.Test.YtdojdhpfhjhmfaaUp
set_option linter.unusedVariables false
namespace Go.Proofs.Ytdojdhpfhjhmfaa
open Go.Proofs.HeapPlain
abbrev Thing := Int × Int
def tw (x : It) : Thing := (x.tick, x.who)
def insI (x : It) : List It → List It
  | [] => [x]
  | y :: l => if itLt x y then x :: y :: l else y :: insI x l
/-- Behind all of its tick, or before. -/
def insR (x : Thing) : List Thing → List Thing
  | [] => [x]
  | y :: l => if x.1 < y.1 then x :: y :: l else y :: insR x l
theorem insI_perm (x : It) : ∀ l : List It, (insI x l).Perm (x :: l)
  | [] => List.Perm.refl _
  | y :: l => by
    unfold insI
    split
    · exact List.Perm.refl _
    · exact ((insI_perm x l).cons y).trans (List.Perm.swap x y l)
theorem insI_mem {x z : It} {l : List It} : z ∈ insI x l ↔ z = x ∨ z ∈ l := by rw [(insI_perm x l).mem_iff]; simp
theorem itLt_tr {a b c : It} (h : itLt a b) (k : itLt b c) : itLt a c := by unfold itLt at *; omega
theorem insI_sorted (x : It) : ∀ l : List It, l.Pairwise itLt → (∀ y ∈ l, y.seq < x.seq) → (insI x l).Pairwise itLt
  | [], _, _ => List.pairwise_singleton _ _
  | y :: l, h, hs => by
    unfold insI
    rw [List.pairwise_cons] at h
    split
    · rename_i hl
      rw [List.pairwise_cons]
      refine ⟨fun z hz => ?_, List.pairwise_cons.2 h⟩
      rcases List.mem_cons.1 hz with rfl | hz
      · exact hl
      · exact itLt_tr hl (h.1 z hz)
    · rename_i hl
      rw [List.pairwise_cons]
      refine ⟨fun z hz => ?_, insI_sorted x l h.2 fun z hz => hs z (List.mem_cons_of_mem _ hz)⟩
      rcases insI_mem.1 hz with rfl | hz
      · have := hs y List.mem_cons_self
        unfold itLt at *; omega
      · exact h.1 z hz
theorem insI_tw (x : It) : ∀ l : List It, (∀ y ∈ l, y.seq < x.seq) → (insI x l).map tw = insR (tw x) (l.map tw)
  | [], _ => rfl
  | y :: l, hs => by
    have h0 := hs y List.mem_cons_self
    have ih := insI_tw x l fun z hz => hs z (List.mem_cons_of_mem _ hz)
    have e : itLt x y ↔ (tw x).1 < (tw y).1 := by unfold itLt tw; simp; omega
    unfold insI
    rw [List.map_cons]
    unfold insR
    by_cases h : itLt x y
    · rw [if_pos h, if_pos (e.1 h)]; rfl
    · rw [if_neg h, if_neg (fun k => h (e.2 k)), List.map_cons, ih]
structure HQ (L S : List It) (n : Nat) : Prop where
  heap : HpL itLt d0 L
  perm : L.Perm S
  sorted : S.Pairwise itLt
  seqs : ∀ y ∈ S, y.seq ≤ (n : Int)
variable {L S : List It} {n : Nat}
theorem HQ.len (h : HQ L S n) : L.length = S.length := h.perm.length_eq
theorem HQ.nil : HQ [] [] 0 := ⟨fun k _ h => absurd h (Nat.not_lt_zero _), List.Perm.refl _, List.Pairwise.nil, fun _ h => by cases h⟩
theorem HQ.push (h : HQ L S n) (t who : Int) : HQ (pushL itLt d0 L ⟨t, who, ((n + 1 : Nat) : Int)⟩) (insI ⟨t, who, ((n + 1 : Nat) : Int)⟩ S) (n + 1) := by
  obtain ⟨h1, h2⟩ := push_law itLt d0 itLt_asymm itLt_trans L ⟨t, who, ((n + 1 : Nat) : Int)⟩ h.heap
  have hs : ∀ y ∈ S, y.seq < ((n + 1 : Nat) : Int) := fun y hy => by have := h.seqs y hy; omega
  refine ⟨h1, (h2.trans ?_).trans (insI_perm _ S).symm, insI_sorted _ S h.sorted hs, fun y hy => ?_⟩
  · exact (List.perm_append_comm.trans (List.Perm.refl _)).trans (h.perm.cons _)
  · rcases insI_mem.1 hy with rfl | hy
    · exact Int.le_refl _
    · have := hs y hy; omega
theorem HQ.head {s : It} {S' : List It} (h : HQ L (s :: S') n) : L.getD 0 d0 = s := by
  have hl := h.len
  have h0 : 0 < L.length := by rw [hl]; simp
  have hm : L.getD 0 d0 ∈ s :: S' := h.perm.mem_iff.1 (by rw [List.getD_eq_getElem?_getD, List.getElem?_eq_getElem h0]; exact List.getElem_mem h0)
  rcases List.mem_cons.1 hm with e | hm
  · exact e
  · have hlt := (List.pairwise_cons.1 h.sorted).1 _ hm
    have hsm : s ∈ L := h.perm.mem_iff.2 List.mem_cons_self
    obtain ⟨k, hk, e⟩ := List.getElem_of_mem hsm
    have := root_least itLt itLt_asymm itLt_trans L.length _ h.heap k hk
    simp only [List.getD_eq_getElem?_getD, List.getElem?_eq_getElem hk, Option.getD_some, e] at this
    simp only [List.getD_eq_getElem?_getD] at hlt
    exact absurd hlt this
theorem HQ.out (h : HQ L S n) {i : Nat} (hi : i < L.length) : ∃ S', HQ (outL itLt d0 L i) S' n ∧ S'.Sublist S ∧ S.Perm (L.getD i d0 :: S') := by
  obtain ⟨h1, h2⟩ := out_law itLt d0 itLt_asymm itLt_trans L i hi h.heap
  have hm : L.getD i d0 ∈ S := h.perm.mem_iff.1 (by rw [List.getD_eq_getElem?_getD, List.getElem?_eq_getElem hi]; exact List.getElem_mem hi)
  obtain ⟨A, B, e⟩ := List.append_of_mem hm
  have hp : S.Perm (L.getD i d0 :: (A ++ B)) := by rw [e]; exact List.perm_middle
  have hsub : (A ++ B).Sublist S := by rw [e]; exact List.Sublist.append (List.Sublist.refl _) (List.sublist_cons_self _ _)
  refine ⟨A ++ B, ⟨h1, ?_, h.sorted.sublist hsub, fun y hy => h.seqs y (hsub.mem hy)⟩, hsub, hp⟩
  exact (List.perm_cons _).1 ((h2.symm.trans h.perm).trans hp)
theorem HQ.pop {s : It} {S' : List It} (h : HQ L (s :: S') n) : HQ (outL itLt d0 L 0) S' n := by
  have h0 : 0 < L.length := by rw [h.len]; simp
  obtain ⟨T, hT, hs, hp⟩ := h.out h0
  rw [h.head] at hp
  have hp2 : S'.Perm T := (List.perm_cons _).1 hp
  exact ⟨hT.heap, hT.perm.trans hp2.symm, (List.pairwise_cons.1 h.sorted).2, fun y hy => h.seqs y (List.mem_cons_of_mem _ hy)⟩
/-- All but one's. -/
def notOf (who : Int) (l : List It) : List It := l.filter fun x => decide (x.who ≠ who)
def notOfT (who : Int) (l : List Thing) : List Thing := l.filter fun x => decide (x.2 ≠ who)
theorem notOf_tw (who : Int) (l : List It) : (notOf who l).map tw = notOfT who (l.map tw) := by
  unfold notOf notOfT; rw [List.filter_map]; rfl
theorem HQ.outOf (h : HQ L S n) {i : Nat} (hi : i < L.length) {who : Int} (hw : (L.getD i d0).who = who) : ∃ S', HQ (outL itLt d0 L i) S' n ∧ notOf who S' = notOf who S ∧ S.length = S'.length + 1 := by
  obtain ⟨S', h1, h2, h3⟩ := h.out hi
  refine ⟨S', h1, ?_, by rw [h3.length_eq]; rfl⟩
  refine (h2.filter _).eq_of_length ?_
  have := (h3.filter fun x => decide (x.who ≠ who)).length_eq
  rw [List.filter_cons, if_neg (by rw [hw]; simp)] at this
  exact this.symm
theorem HQ.done (h : HQ L S n) {who : Int} (hd : ∀ j, j < L.length → (L.getD j d0).who ≠ who) : notOf who S = S := by
  unfold notOf
  rw [List.filter_eq_self]
  intro x hx
  obtain ⟨k, hk, e⟩ := List.getElem_of_mem (h.perm.mem_iff.2 hx)
  have := hd k hk
  rw [List.getD_eq_getElem?_getD, List.getElem?_eq_getElem hk, Option.getD_some, e] at this
  simpa using this
end Go.Proofs.Ytdojdhpfhjhmfaa
