/- Bytes that come in, bytes that go, plain: what an op makes of a document that is written in parts. No program. -/
import Derived.Test.YtbcdjdbdjcflgaaPlays
namespace Go.Proofs.Ytbcdjdbdjcflgaa
open Go.RowKit
theorem and255 (m : Int) : 0 ≤ bits .and .i64 m 255 ∧ bits .and .i64 m 255 ≤ 255 := by
  have h : (BitVec.ofInt 64 m &&& BitVec.ofInt 64 255).toNat ≤ 255 := by
    rw [BitVec.toNat_and]
    exact Nat.le_trans Nat.and_le_right (by decide)
  show 0 ≤ IntKind.i64.wrap ((BitVec.ofInt 64 m &&& BitVec.ofInt 64 255).toNat : Int) ∧ IntKind.i64.wrap ((BitVec.ofInt 64 m &&& BitVec.ofInt 64 255).toNat : Int) ≤ 255
  rw [IntKind.wrap_i64]
  omega
theorem ex_left (P Q : ByteArray) : (P ++ Q).extract 0 P.size = P := by
  apply nb_inj; rw [nb_extract, nb_append, List.drop_zero, List.take_left' (nb_length P)]
theorem ex_right (P Q : ByteArray) : (P ++ Q).extract P.size (P ++ Q).size = Q := by
  apply nb_inj; rw [nb_extract, nb_append, ByteArray.size_append, List.take_of_length_le (by rw [List.length_append, nb_length, nb_length]; omega), List.drop_left' (nb_length P)]
theorem ex_mid (P S Q : ByteArray) : (P ++ S ++ Q).extract P.size (P.size + S.size) = S := by
  apply nb_inj; rw [nb_extract, nb_append, nb_append, List.take_left' (by rw [List.length_append, nb_length, nb_length]), List.drop_left' (nb_length P)]
theorem ex_end (P S Q : ByteArray) : (P ++ S ++ Q).extract (P.size + S.size) (P ++ S ++ Q).size = Q := by
  have := ex_right (P ++ S) Q
  rwa [ByteArray.size_append] at this
theorem ex_head (P S Q : ByteArray) : (P ++ S ++ Q).extract 0 P.size = P := by
  have := ex_left P (S ++ Q)
  rwa [← ByteArray.append_assoc] at this
theorem ins_law (P Q S : ByteArray) (p : Nat) (hp : P.size = p) (h1 : 1 ≤ S.size) (h2 : S.size ≤ 40) (h3 : P.size + Q.size + S.size ≤ 200) : dDo (P ++ Q) 1 (p : Int) S 0 = (P ++ S ++ Q, ⟨#[]⟩, 0) := by
  subst hp
  have hc : chk 1 (P.size : Int) S 0 = 0 := by
    unfold chk
    rw [if_neg (by omega), if_neg (by omega), if_neg (by omega), if_neg (by omega)]
  have hz : (P ++ Q).size = P.size + Q.size := ByteArray.size_append
  unfold dDo
  rw [if_neg (by rw [hc]; simp), if_pos rfl, if_neg (by rw [hz]; omega), if_neg (by rw [hz]; omega)]
  rw [Int.toNat_natCast, ex_left, ex_right]
theorem del_law (P S Q : ByteArray) (p m : Nat) (hp : P.size = p) (hm : S.size = m) (h1 : 1 ≤ S.size) (h2 : S.size ≤ 40) (h3 : P.size ≤ 200) : dDo (P ++ S ++ Q) 2 (p : Int) ⟨#[]⟩ (m : Int) = (P ++ Q, S, 0) := by
  subst hp hm
  have h0 : (⟨#[]⟩ : ByteArray).size = 0 := rfl
  have hc : chk 2 (P.size : Int) ⟨#[]⟩ (S.size : Int) = 0 := by
    unfold chk
    rw [if_neg (by omega), if_neg (by omega), if_neg (by omega), if_neg (by rw [h0]; omega)]
  have hz : (P ++ S ++ Q).size = P.size + S.size + Q.size := by rw [ByteArray.size_append, ByteArray.size_append]
  unfold dDo
  rw [if_neg (by rw [hc]; simp), if_neg (by decide), if_neg (by rw [hz]; omega)]
  rw [Int.toNat_natCast, show ((P.size : Int) + (S.size : Int)).toNat = P.size + S.size by omega, ex_head, ex_end, ex_mid]
/-- The document before and behind a place. -/
theorem split_at (t : ByteArray) (p : Nat) (hp : p ≤ t.size) : ∃ P Q, t = P ++ Q ∧ P.size = p ∧ P.size + Q.size = t.size := by
  refine ⟨t.extract 0 p, t.extract p t.size, ?_, ?_, ?_⟩
  · apply nb_inj
    have h : (nb t).take t.size = nb t := List.take_of_length_le (by rw [nb_length]; exact Nat.le_refl _)
    rw [nb_append, nb_extract, nb_extract, List.drop_zero, h, List.take_append_drop]
  · simp; omega
  · simp; omega
theorem all_parts (s S : ByteArray) (p c : Nat) (hp : p ≤ s.size) (h1 : 1 ≤ c) (h2 : c < S.size) (h3 : S.size ≤ 40) (h4 : s.size + S.size ≤ 200) : ∃ A B D : ByteArray,
    dDo s 1 (p : Int) S 0 = (A, ⟨#[]⟩, 0) ∧ dDo s 1 (p : Int) (S.extract 0 c) 0 = (B, ⟨#[]⟩, 0) ∧ dDo B 1 ((p : Int) + (c : Int)) (S.extract c S.size) 0 = (A, ⟨#[]⟩, 0) ∧
    dDo A 2 (p : Int) ⟨#[]⟩ (S.size : Int) = (s, S, 0) ∧ dDo A 2 (p : Int) ⟨#[]⟩ (c : Int) = (D, S.extract 0 c, 0) ∧ dDo D 2 (p : Int) ⟨#[]⟩ ((S.size : Int) - (c : Int)) = (s, S.extract c S.size, 0) ∧
    A.size ≤ 200 ∧ B.size ≤ 200 ∧ D.size ≤ 200 ∧ S.extract 0 c ++ S.extract c S.size = S := by
  obtain ⟨P, Q, hs, hP, hPQ⟩ := split_at s p hp
  have z1 : (S.extract 0 c).size = c := by rw [ByteArray.size_extract]; omega
  have z2 : (S.extract c S.size).size = S.size - c := by rw [ByteArray.size_extract]; omega
  have hcat : S.extract 0 c ++ S.extract c S.size = S := by
    apply nb_inj
    have h : (nb S).take S.size = nb S := List.take_of_length_le (by rw [nb_length]; exact Nat.le_refl _)
    rw [nb_append, nb_extract, nb_extract, List.drop_zero, h, List.take_append_drop]
  generalize S.extract 0 c = s1 at *
  generalize S.extract c S.size = s2 at *
  subst hs
  refine ⟨P ++ S ++ Q, P ++ s1 ++ Q, P ++ s2 ++ Q, ins_law P Q S p hP (by omega) h3 (by omega), ins_law P Q s1 p hP (by omega) (by omega) (by omega), ?_, del_law P S Q p S.size hP rfl (by omega) h3 (by omega), ?_, ?_, ?_, ?_, ?_, hcat⟩
  · have := ins_law (P ++ s1) Q s2 (p + c) (by rw [ByteArray.size_append]; omega) (by omega) (by omega) (by rw [ByteArray.size_append]; omega)
    rw [ByteArray.append_assoc (a := P) (b := s1) (c := s2), hcat] at this
    rw [← this]
    congr 1

  · have := del_law P s1 (s2 ++ Q) p c hP z1 (by omega) (by omega) (by omega)
    rw [show P ++ s1 ++ (s2 ++ Q) = P ++ S ++ Q by rw [← hcat]; simp only [ByteArray.append_assoc], ← ByteArray.append_assoc] at this
    exact this
  · have := del_law P s2 Q p (S.size - c) hP z2 (by omega) (by omega) (by omega)
    rw [← this]
    congr 1
    omega
  · rw [ByteArray.size_append, ByteArray.size_append]; omega
  · rw [ByteArray.size_append, ByteArray.size_append]; omega
  · rw [ByteArray.size_append, ByteArray.size_append]; omega
theorem cut_at (cu : Int) (z : Nat) (hz : 2 ≤ z) (hz2 : z ≤ 40) : ∃ c : Nat, wrap64 (1 + (bits .and .i64 cu 255).tmod ((z : Int) - 1)) = (c : Int) ∧ 1 ≤ c ∧ c < z := by
  obtain ⟨h0, h1⟩ := and255 cu
  generalize bits .and .i64 cu 255 = b at *
  have hm := Int.emod_nonneg b (show (z : Int) - 1 ≠ 0 by omega)
  have hm2 := Int.emod_lt_of_pos b (show 0 < (z : Int) - 1 by omega)
  refine ⟨(1 + b % ((z : Int) - 1)).toNat, ?_, by omega, by omega⟩
  rw [Int.tmod_eq_emod_of_nonneg h0, IntWalk.wrap64_in _ ⟨by omega, by omega⟩]
  omega
end Go.Proofs.Ytbcdjdbdjcflgaa
