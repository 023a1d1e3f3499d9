/- Of the versions 1 to n a search looks at few, plain. -/
import Derived.Test.YtdkojpfhmohaeaaDoorHeights
import Derived.Test.YtdkojpfhmohaeaaDoorTILaw2
set_option linter.unusedVariables false
namespace Go.Proofs.YtdkojpfhmohaeaaDoor
open Go.Proofs.TowerPlain TI
/-- How many bits a number has. -/
def bitsOf (n : Nat) : Nat := if h : n = 0 then 0 else 1 + bitsOf (n / 2)
termination_by n
decreasing_by omega
theorem bitsOf_zero : bitsOf 0 = 0 := by rw [bitsOf]; rfl
theorem bitsOf_pos {n : Nat} (h : 0 < n) : bitsOf n = 1 + bitsOf (n / 2) := by
  conv => lhs; rw [bitsOf]
  rw [dif_neg (by omega)]
theorem bits_lt : ∀ (k d : Nat), d < 2 ^ k → bitsOf d ≤ k
  | 0, d, h => by simp at h; subst h; rw [bitsOf_zero]; exact Nat.le_refl _
  | k + 1, d, h => by
    by_cases h0 : d = 0
    · subst h0; rw [bitsOf_zero]; exact Nat.zero_le _
    · rw [bitsOf_pos (by omega)]
      have := bits_lt k (d / 2) (by rw [Nat.pow_succ] at h; omega)
      omega
theorem bits_ge : ∀ (k d : Nat), 2 ^ k ≤ d → k + 1 ≤ bitsOf d
  | 0, d, h => by rw [bitsOf_pos (by simp at h; omega)]; omega
  | k + 1, d, h => by
    have hp : 0 < 2 ^ k := Nat.pos_of_ne_zero (by simp)
    rw [Nat.pow_succ] at h
    rw [bitsOf_pos (by omega)]
    have := bits_ge k (d / 2) (by omega)
    omega
theorem bits_mono : ∀ (b a : Nat), a ≤ b → bitsOf a ≤ bitsOf b := by
  intro b
  induction b using Nat.strongRecOn with
  | _ b ih =>
    intro a h
    by_cases h0 : a = 0
    · subst h0; rw [bitsOf_zero]; exact Nat.zero_le _
    · rw [bitsOf_pos (by omega), bitsOf_pos (show 0 < b by omega)]
      have := ih (b / 2) (by omega) (a / 2) (by omega)
      omega
theorem ctz_ge : ∀ (k f x : Nat), k ≤ f → 0 < x → x < 2 ^ f → (k ≤ Lib.ctzFrom f x ↔ x % 2 ^ k = 0)
  | 0, f, x, _, _, _ => by simp [Nat.mod_one]
  | k + 1, 0, x, h, _, _ => by omega
  | k + 1, f + 1, x, h, h0, hx => by
    by_cases hm : x % 2 = 1
    · rw [ctz_stop f x hm]
      refine ⟨fun e => by omega, fun e => ?_⟩
      have h1 : 2 ∣ x := Nat.dvd_trans ⟨2 ^ k, by rw [Nat.pow_succ]; omega⟩ (Nat.dvd_of_mod_eq_zero e)
      omega
    · rw [ctz_step f x (by omega)]
      have ih := ctz_ge k f (x / 2) (by omega) (by omega) (by rw [Nat.pow_succ] at hx; omega)
      have e : x % 2 ^ (k + 1) = 2 * (x / 2 % 2 ^ k) := by
        obtain ⟨y, rfl⟩ : ∃ y, x = 2 * y := ⟨x / 2, by omega⟩
        rw [Nat.mul_div_cancel_left y (by decide), Nat.pow_succ, Nat.mul_comm (2 ^ k) 2, Nat.mul_mod_mul_left]
      rw [e]
      constructor
      · intro h1; have := ih.1 (by omega); omega
      · intro h1; have := ih.2 (by omega); omega
theorem hgt_gt {k q : Nat} (hk : k < 10) (hq : 0 < q) (hb : q < 2 ^ 64) : k < hgt (q : Int) ↔ q % 2 ^ k = 0 := by
  unfold hgt
  rw [if_neg (by omega), Int.toNat_natCast, ctz_eq (by omega), ← ctz_ge k 64 q (by omega) hq hb]
  omega
/-- The heights of p + 1 to p + d. -/
def hsFrom (p d : Nat) : List Nat := (List.range d).map fun i => hgt ((p + i + 1 : Nat) : Int)
theorem hsFrom_split (p a b : Nat) : hsFrom p (a + 1 + b) = hsFrom p a ++ hgt ((p + a + 1 : Nat) : Int) :: hsFrom (p + a + 1) b := by
  unfold hsFrom
  rw [List.range_add, List.map_append, List.range_succ, List.map_append, List.append_assoc, List.map_map]
  congr 1
  show [hgt _] ++ _ = _
  rw [List.singleton_append]
  congr 1
  refine List.map_congr_left fun i _ => ?_
  show hgt ((p + (a + 1 + i) + 1 : Nat) : Int) = _
  rw [show p + (a + 1 + i) + 1 = p + a + 1 + i + 1 by omega]
theorem hsFrom_low {k p d : Nat} (hk : k < 10) (hp : p % 2 ^ k = 0) (hd : d < 2 ^ k) (hb : p + d < 2 ^ 64) : ∀ x ∈ hsFrom p d, x ≤ k := by
  intro x hx
  obtain ⟨i, hi, rfl⟩ := List.mem_map.1 hx
  have hi' : i < d := List.mem_range.1 hi
  refine Nat.le_of_not_lt fun h => ?_
  have h1 := (hgt_gt hk (by omega) (by omega)).1 h
  have h2 : (p + i + 1) % 2 ^ k = i + 1 := by
    rw [show p + i + 1 = p + (i + 1) by omega, Nat.add_mod, hp, Nat.zero_add, Nat.mod_mod, Nat.mod_eq_of_lt (by omega)]
  omega
theorem steps_few : ∀ (k p d : Nat), k ≤ 10 → p % 2 ^ k = 0 → d < 2 ^ k → p + d < 2 ^ 64 → stepsH k (hsFrom p d) ≤ bitsOf d
  | 0, p, d, _, _, _, _ => Nat.zero_le _
  | k + 1, p, d, hk, hp, hd, hb => by
    have hp' : p % 2 ^ k = 0 := by
      have h1 : 2 ^ (k + 1) ∣ p := Nat.dvd_of_mod_eq_zero hp
      exact Nat.mod_eq_zero_of_dvd (Nat.dvd_trans ⟨2, by rw [Nat.pow_succ]⟩ h1)
    have hpow : 0 < 2 ^ k := Nat.pos_of_ne_zero (by simp)
    rw [Nat.pow_succ] at hd
    by_cases h : d < 2 ^ k
    · have hl := hsFrom_low (by omega) hp' h hb
      show ((hsFrom p d).filter fun x => decide (k < x)).length + stepsH k (afterH k (hsFrom p d)) ≤ _
      rw [filter_low hl, afterH_low hl]
      have := steps_few k p d (by omega) hp' h hb
      simpa using this
    · obtain ⟨b, rfl⟩ : ∃ b, d = (2 ^ k - 1) + 1 + b := ⟨d - 2 ^ k, by omega⟩
      have e : p + (2 ^ k - 1) + 1 = p + 2 ^ k := by omega
      have hp2 : (p + 2 ^ k) % 2 ^ k = 0 := by rw [Nat.add_mod_right]; exact hp'
      have hl1 := hsFrom_low (p := p) (d := 2 ^ k - 1) (by omega) hp' (by omega) (by omega)
      have hl2 := hsFrom_low (p := p + 2 ^ k) (d := b) (by omega) hp2 (by omega) (by omega)
      have hhi : k < hgt ((p + 2 ^ k : Nat) : Int) := (hgt_gt (by omega) (by omega) (by omega)).2 hp2
      rw [hsFrom_split, e]
      show ((hsFrom p (2 ^ k - 1) ++ hgt ((p + 2 ^ k : Nat) : Int) :: hsFrom (p + 2 ^ k) b).filter fun x => decide (k < x)).length + stepsH k (afterH k (hsFrom p (2 ^ k - 1) ++ hgt ((p + 2 ^ k : Nat) : Int) :: hsFrom (p + 2 ^ k) b)) ≤ _
      rw [filter_high hhi _ hl1, filter_low hl2, afterH_high hhi, afterH_low hl2]
      have h1 := steps_few k (p + 2 ^ k) b (by omega) hp2 (by omega) (by omega)
      have h2 := bits_lt k b (by omega)
      have h3 := bits_ge k ((2 ^ k - 1) + 1 + b) (by omega)
      simp; omega
/-- The versions 1 to n, each kept as itself. -/
def idT (n : Nat) : List (Int × Int) := (List.range n).map fun i => (((i + 1 : Nat) : Int), ((i + 1 : Nat) : Int))
theorem idT_succ (n : Nat) : idT (n + 1) = idT n ++ [(((n + 1 : Nat) : Int), ((n + 1 : Nat) : Int))] := by unfold idT; rw [List.range_succ, List.map_append]; rfl
theorem idT_len (n : Nat) : (idT n).length = n := by unfold idT; simp
theorem idT_mem {n : Nat} {y : Int × Int} (h : y ∈ idT n) : y.1 ≤ n := by
  obtain ⟨i, hi, rfl⟩ := List.mem_map.1 h
  have := List.mem_range.1 hi
  show ((i + 1 : Nat) : Int) ≤ n
  omega
theorem idT_ins (n : Nat) : insT (((n + 1 : Nat) : Int), ((n + 1 : Nat) : Int)) (idT n) = idT (n + 1) := by
  have := insT_low (x := (((n + 1 : Nat) : Int), ((n + 1 : Nat) : Int))) (A := idT n) [] fun a ha => by have := idT_mem ha; show a.1 < ((n + 1 : Nat) : Int); omega
  rw [List.append_nil] at this
  rw [this, idT_succ]; rfl
theorem idT_filter (v : Int) : ∀ n : Nat, (idT n).filter (fun x => decide (x.1 ≤ v)) = idT (min n v.toNat)
  | 0 => by simp [idT]
  | n + 1 => by
    rw [idT_succ, List.filter_append, idT_filter v n]
    by_cases h : ((n + 1 : Nat) : Int) ≤ v
    · rw [List.filter_cons_of_pos (by simpa using h), List.filter_nil, Nat.min_eq_left (by omega), Nat.min_eq_left (by omega), ← idT_succ]
    · rw [List.filter_cons_of_neg (by simpa using h), List.filter_nil, List.append_nil, Nat.min_eq_right (by omega), Nat.min_eq_right (by omega)]
theorem idT_floor (v : Int) (n : Nat) : floorT v (idT n) = if min n v.toNat = 0 then none else some (((min n v.toNat : Nat) : Int), ((min n v.toNat : Nat) : Int)) := by
  unfold floorT
  rw [idT_filter]
  generalize min n v.toNat = m
  cases m with
  | zero => rfl
  | succ m => rw [idT_succ, List.getLast?_append, if_neg (by omega)]; rfl
theorem idT_steps (v : Int) (n : Nat) (hn : n ≤ 1023) : stepsT v (idT n) ≤ bitsOf n := by
  unfold stepsT
  rw [idT_filter]
  have e : (idT (min n v.toNat)).map (fun x => hgt x.1) = hsFrom 0 (min n v.toNat) := by
    unfold idT hsFrom
    rw [List.map_map]
    refine List.map_congr_left fun i _ => ?_
    show hgt ((i + 1 : Nat) : Int) = hgt ((0 + i + 1 : Nat) : Int)
    rw [Nat.zero_add]
  rw [e]
  exact Nat.le_trans (steps_few 10 0 _ (Nat.le_refl _) (by simp) (by omega) (by omega)) (bits_mono _ _ (Nat.min_le_left _ _))
end Go.Proofs.YtdkojpfhmohaeaaDoor
