/- The inverse of an op that was done takes it back. -/
import Derived.Test.YtbcdjdbdjcflgaaSmall
import Derived.Lib.Strings
import Derived.WideShapes
namespace Go.Proofs.Ytbcdjdbdjcflgaa
open Go.RowKit
theorem ba_ext {a b : ByteArray} (h : a.data.toList = b.data.toList) : a = b := Go.WideShapes.bytes_inj h
theorem ex_list (a : ByteArray) (i j : Nat) : (a.extract i j).data.toList = (a.data.toList.drop i).take (j - i) := Lib.extract_data a i j
theorem len_list (a : ByteArray) : a.data.toList.length = a.size := by rw [Array.length_toList]; rfl
theorem ap_list (a b : ByteArray) : (a ++ b).data.toList = a.data.toList ++ b.data.toList := by simp
theorem l_ins {α : Type} (l m : List α) (a : Nat) (h : a ≤ l.length) : (l.take a ++ m ++ l.drop a).take a = l.take a ∧ (l.take a ++ m ++ l.drop a).drop (a + m.length) = l.drop a := by
  have e : (l.take a).length = a := by simp; omega
  constructor
  · rw [List.append_assoc, List.take_left' e]
  · have e2 : (l.take a ++ m).length = a + m.length := by rw [List.length_append, e]
    rw [List.drop_left' e2]
theorem ins_back (s S : ByteArray) (a : Nat) (h : a ≤ s.size) : (s.extract 0 a ++ S ++ s.extract a s.size).extract 0 a ++ (s.extract 0 a ++ S ++ s.extract a s.size).extract (a + S.size) (s.extract 0 a ++ S ++ s.extract a s.size).size = s := by
  obtain ⟨h1, h2⟩ := l_ins s.data.toList S.data.toList a (by rw [len_list]; exact h)
  have hd : (s.data.toList.drop a).take (s.size - a) = s.data.toList.drop a := List.take_of_length_le (by simp)
  apply ba_ext
  rw [ap_list, ex_list, ex_list]
  have hL : (s.extract 0 a ++ S ++ s.extract a s.size).data.toList = s.data.toList.take a ++ S.data.toList ++ s.data.toList.drop a := by
    rw [ap_list, ap_list, ex_list, ex_list, hd]; simp
  rw [hL, List.drop_zero, Nat.sub_zero, h1, ← len_list S, h2, List.take_of_length_le (l := s.data.toList.drop a), List.take_append_drop]
  rw [← len_list, hL]
  simp
  omega
theorem del_back (s : ByteArray) (a b : Nat) (h : a ≤ b) (hb : b ≤ s.size) : (s.extract 0 a ++ s.extract b s.size).extract 0 a ++ s.extract a b ++ (s.extract 0 a ++ s.extract b s.size).extract a (s.extract 0 a ++ s.extract b s.size).size = s := by
  have hd : (s.data.toList.drop b).take (s.size - b) = s.data.toList.drop b := List.take_of_length_le (by simp)
  have hL : (s.extract 0 a ++ s.extract b s.size).data.toList = s.data.toList.take a ++ s.data.toList.drop b := by
    rw [ap_list, ex_list, ex_list, hd]; simp
  have e : (s.data.toList.take a).length = a := by rw [List.length_take, len_list]; omega
  apply ba_ext
  rw [ap_list, ap_list, ex_list, ex_list, ex_list, hL, List.drop_zero, Nat.sub_zero, List.take_left' e, List.drop_left' e, List.take_of_length_le (l := s.data.toList.drop b)]
  · have : (s.data.toList.drop a).take (b - a) ++ s.data.toList.drop b = s.data.toList.drop a := by
      have e2 : s.data.toList.drop b = (s.data.toList.drop a).drop (b - a) := by rw [List.drop_drop]; congr 1; omega
      rw [e2, List.take_append_drop]
    rw [List.append_assoc, this, List.take_append_drop]
  · rw [← len_list, hL]
    simp
    omega
/-- An op. -/
structure Op4 where
  k : Int
  p : Int
  S : ByteArray
  n : Int
def inv (o : Op4) (gone : ByteArray) : Op4 := if o.k = 1 then ⟨2, o.p, ⟨#[]⟩, o.S.size⟩ else ⟨1, o.p, gone, 0⟩
def dOp (s : ByteArray) (o : Op4) : ByteArray × ByteArray × Int := dDo s o.k o.p o.S o.n
def cOp (o : Op4) : Int := chk o.k o.p o.S o.n
/-- BACK. -/
theorem dOp_back (s : ByteArray) (o : Op4) (hs : s.size ≤ 200) (h : (dOp s o).2.2 = 0) :
    (dOp (dOp s o).1 (inv o (dOp s o).2.1)).1 = s ∧ (dOp (dOp s o).1 (inv o (dOp s o).2.1)).2.2 = 0 ∧ cOp (inv o (dOp s o).2.1) = 0 ∧ (dOp s o).1.size ≤ 200 := by
  obtain ⟨k, a, S, n⟩ := o
  have hc : chk k a S n = 0 := by
    by_cases hc : chk k a S n = 0
    · exact hc
    · exfalso
      simp only [dOp] at h
      unfold dDo at h
      rw [if_pos hc] at h
      exact hc h
  rcases chk_kind hc with rfl | rfl
  · obtain ⟨h0, h1, h2, h3, rfl⟩ := chk_ins hc
    have hd : dDo s 1 a S 0 = if (s.size : Int) < a then (s, ⟨#[]⟩, 6) else if 200 < (s.size : Int) + S.size then (s, ⟨#[]⟩, 7) else (s.extract 0 a.toNat ++ S ++ s.extract a.toNat s.size, ⟨#[]⟩, 0) := by
      unfold dDo; rw [if_neg (by simp [hc]), if_pos rfl]
    simp only [dOp] at h ⊢
    rw [hd] at h ⊢
    by_cases c1 : (s.size : Int) < a
    · rw [if_pos c1] at h; simp at h
    · rw [if_neg c1] at h ⊢
      by_cases c2 : 200 < (s.size : Int) + S.size
      · rw [if_pos c2] at h; simp at h
      · rw [if_neg c2] at h ⊢
        have hz : (s.extract 0 a.toNat ++ S ++ s.extract a.toNat s.size).size = s.size + S.size := by simp; omega
        have hci : chk 2 a ⟨#[]⟩ (S.size : Int) = 0 := by
          unfold chk
          rw [if_neg (by omega), if_neg (by omega), if_neg (by omega), if_neg]
          rintro ⟨_, hh⟩
          rcases hh with hh | hh | hh
          · omega
          · omega
          · exact hh rfl
        have hi : dDo (s.extract 0 a.toNat ++ S ++ s.extract a.toNat s.size) 2 a ⟨#[]⟩ (S.size : Int) = (s, S, 0) ∨ True := .inr trivial
        simp only [inv, if_true]
        refine ⟨?_, ?_, hci, by rw [hz]; omega⟩
        · unfold dDo
          rw [if_neg (by simp [hci]), if_neg (by decide), if_neg (by rw [hz]; omega)]
          have := ins_back s S a.toNat (by omega)
          rwa [show (a + (S.size : Int)).toNat = a.toNat + S.size from by omega]
        · unfold dDo
          rw [if_neg (by simp [hci]), if_neg (by decide), if_neg (by rw [hz]; omega)]
  · obtain ⟨h0, h1, h2, h3, h4⟩ := chk_del hc
    have hd : dDo s 2 a S n = if (s.size : Int) < a + n then (s, ⟨#[]⟩, 6) else (s.extract 0 a.toNat ++ s.extract (a + n).toNat s.size, s.extract a.toNat (a + n).toNat, 0) := by
      unfold dDo; rw [if_neg (by simp [hc]), if_neg (by decide)]
    simp only [dOp] at h ⊢
    rw [hd] at h ⊢
    by_cases c1 : (s.size : Int) < a + n
    · rw [if_pos c1] at h; simp at h
    · rw [if_neg c1] at h ⊢
      have hz : (s.extract 0 a.toNat ++ s.extract (a + n).toNat s.size).size = s.size - n.toNat := by simp; omega
      have hg : (s.extract a.toNat (a + n).toNat).size = n.toNat := by simp; omega
      simp only [inv, if_neg (show ¬ ((2 : Int) = 1) by decide)]
      have hci : chk 1 a (s.extract a.toNat (a + n).toNat) 0 = 0 := by
        unfold chk
        rw [if_neg (by omega), if_neg (by omega), hg, if_neg (by omega), if_neg (by omega)]
      refine ⟨?_, ?_, hci, by rw [hz]; omega⟩
      · unfold dDo
        rw [if_neg (by simp [hci]), if_pos rfl, if_neg (by rw [hz]; omega), if_neg (by rw [hz, hg]; omega)]
        exact del_back s a.toNat (a + n).toNat (by omega) (by omega)
      · unfold dDo
        rw [if_neg (by simp [hci]), if_pos rfl, if_neg (by rw [hz]; omega), if_neg (by rw [hz, hg]; omega)]
end Go.Proofs.Ytbcdjdbdjcflgaa
