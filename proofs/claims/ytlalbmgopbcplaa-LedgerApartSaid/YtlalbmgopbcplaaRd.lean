/- A number read off bytes, plain: what is read is spelled in one way, and what is spelled is read. No program. -/
import Derived.Test.YtlalbmgopbcplaaText
namespace Go.Proofs.Ytlalbmgopbcplaa
/-- A number of the bytes: how it fails, or the number and what is left. -/
def readNum (v i : Nat) : List Nat → Except Int (Nat × List Nat)
  | [] => .error 1
  | b :: l => if (i = 0 ∧ b = 128) ∨ 144115188075855872 ≤ v then .error 2 else if b < 128 then .ok (v * 128 + b, l) else readNum (v * 128 + b % 128) (i + 1) l
theorem num_more (v b : Nat) (hb : b < 128) : num (v * 128 + b) = hi v ++ [b] := by
  rw [num, show (v * 128 + b) / 128 = v by omega, show (v * 128 + b) % 128 = b by omega]
theorem hi_more (v b : Nat) (hb : b < 128) (h : v * 128 + b ≠ 0) : hi (v * 128 + b) = hi v ++ [128 + b] := by
  rw [hi_pos h, show (v * 128 + b) / 128 = v by omega, show (v * 128 + b) % 128 = b by omega]
theorem readNum_one : ∀ (l : List Nat) (v i n : Nat) (r : List Nat), (∀ x ∈ l, x < 256) → (i = 0 → v = 0) → (i ≠ 0 → v ≠ 0) → readNum v i l = .ok (n, r) → hi v ++ l = num n ++ r ∧ n < 18446744073709551616 := by
  intro l
  induction l with
  | nil => intro v i n r _ _ _ h; cases h
  | cons b l ih =>
    intro v i n r hl h0 h1 h
    rw [readNum] at h
    split at h
    · cases h
    · rename_i hn
      have hb : b < 256 := hl b (by simp)
      split at h
      · rename_i h2
        injection h with h
        injection h with h3 h4
        subst h3 h4
        rw [num_more v b h2]
        refine ⟨by simp, by omega⟩
      · rename_i h2
        have hne : v * 128 + b % 128 ≠ 0 := by
          by_cases hi0 : i = 0
          · have : b ≠ 128 := fun e => hn (.inl ⟨hi0, e⟩)
            omega
          · have := h1 hi0; omega
        obtain ⟨h3, h4⟩ := ih (v * 128 + b % 128) (i + 1) n r (fun x hx => hl x (by simp [hx])) (by omega) (fun _ => hne) h
        refine ⟨?_, h4⟩
        rw [hi_more v (b % 128) (by omega) hne, List.append_assoc] at h3
        rw [show b = 128 + b % 128 by omega]
        simpa using h3
theorem readNum_emit (n : Nat) (hn : n < 18446744073709551616) (r : List Nat) : ∀ (k i : Nat), (i = 0 → n < 128 ^ (k + 1) ∧ (k = 0 ∨ 128 ^ k ≤ n)) → readNum (n / 128 ^ (k + 1)) i (emit n k ++ r) = .ok (n, r) := by
  intro k
  induction k with
  | zero =>
    intro i _
    rw [emit, List.cons_append, readNum, if_neg (by omega), if_pos (by omega)]
    simp only [List.nil_append]
    rw [show n / 128 ^ (0 + 1) * 128 + n % 128 = n by omega]
  | succ k ih =>
    intro i hi0
    have hp : n / 128 ^ (k + 1 + 1) = n / 128 ^ (k + 1) / 128 := by rw [Nat.pow_succ 128 (k + 1), Nat.div_div_eq_div_mul]
    have h1 : i = 0 → 0 < n / 128 ^ (k + 1) := fun h => Nat.div_pos ((hi0 h).2.resolve_left (by omega)) (Nat.pow_pos (by decide))
    have h2 : n / 128 ^ (k + 1) < 144115188075855872 := by
      rw [Nat.pow_succ 128 k, Nat.mul_comm, ← Nat.div_div_eq_div_mul]
      exact Nat.lt_of_le_of_lt (Nat.div_le_self _ _) (by omega)
    rw [emit, List.cons_append, readNum, hp]
    by_cases hz : i = 0 ∧ 128 + n / 128 ^ (k + 1) % 128 = 128
    · exfalso
      have h3 := h1 hz.1
      have h4 : n / 128 ^ (k + 1) < 128 := Nat.div_lt_of_lt_mul (by have := (hi0 hz.1).1; rw [Nat.pow_succ] at this; exact this)
      omega
    rw [if_neg (by rintro (h | h); exact hz h; omega), if_neg (by omega)]
    have := ih (i + 1) (by omega)
    rw [show n / 128 ^ (k + 1) / 128 * 128 + (128 + n / 128 ^ (k + 1) % 128) % 128 = n / 128 ^ (k + 1) by omega]
    exact this
theorem digits (n : Nat) : ∃ k, n < 128 ^ (k + 1) ∧ (k = 0 ∨ 128 ^ k ≤ n) := by
  induction n using Nat.strongRecOn with
  | _ n ih =>
    by_cases h : n < 128
    · exact ⟨0, by simpa using h, .inl rfl⟩
    · obtain ⟨k, h1, h2⟩ := ih (n / 128) (by omega)
      refine ⟨k + 1, ?_, .inr ?_⟩
      · rw [Nat.pow_succ]; omega
      · rw [Nat.pow_succ]
        rcases h2 with rfl | h2
        · simp; omega
        · omega
theorem readNum_num (n : Nat) (hn : n < 18446744073709551616) (r : List Nat) : readNum 0 0 (num n ++ r) = .ok (n, r) := by
  obtain ⟨k, h1, h2⟩ := digits n
  rw [← emit_num n k h1 h2]
  have := readNum_emit n hn r k 0 (fun _ => ⟨h1, h2⟩)
  rwa [Nat.div_eq_of_lt h1] at this
theorem num_lt (n : Nat) : ∀ x ∈ num n, x < 256 := by
  have h : ∀ m, ∀ x ∈ hi m, x < 256 := by
    intro m
    induction m using Nat.strongRecOn with
    | _ m ih =>
      intro x hx
      by_cases h0 : m = 0
      · subst h0; rw [hi_zero] at hx; cases hx
      · rw [hi_pos h0] at hx
        simp at hx
        rcases hx with hx | hx
        · exact ih (m / 128) (by omega) x hx
        · omega
  intro x hx
  rw [num] at hx
  simp at hx
  rcases hx with hx | hx
  · exact h _ x hx
  · omega
theorem nb_lt (s : ByteArray) : ∀ x ∈ nb s, x < 256 := by
  intro x hx
  simp only [nb, List.mem_map] at hx
  obtain ⟨a, _, rfl⟩ := hx
  exact a.toNat_lt
/-- Bytes as a text. -/
def bstr (l : List Nat) : ByteArray := ⟨(l.map UInt8.ofNat).toArray⟩
theorem nb_bstr (l : List Nat) (h : ∀ x ∈ l, x < 256) : nb (bstr l) = l := by
  rw [nb, bstr, List.map_map]
  conv => rhs; rw [← List.map_id l]
  apply List.map_congr_left
  intro a ha
  show (UInt8.ofNat a).toNat = a
  rw [UInt8.toNat_ofNat']
  exact Nat.mod_eq_of_lt (h a ha)
theorem bstr_nb (s : ByteArray) : bstr (nb s) = s := nb_inj (nb_bstr _ (nb_lt s))
end Go.Proofs.Ytlalbmgopbcplaa
