/- Processes of one pace, plain. -/
import Derived.Test.YtdojdhpfhjhmfaaSargs
set_option maxRecDepth 16000
set_option linter.unusedVariables false
namespace Go.Proofs.Ytdojdhpfhjhmfaa
open Go.RowKit
theorem and_upto (c : Int) (m : Nat) (hm : (BitVec.ofInt 64 (m : Int)).toNat = m) (hb : m ≤ 9223372036854775807) : ∃ j : Nat, j ≤ m ∧ bits .and .i64 c (m : Int) = (j : Int) := by
  have h : (BitVec.ofInt 64 c &&& BitVec.ofInt 64 (m : Int)).toNat ≤ m := by
    rw [BitVec.toNat_and]
    exact Nat.le_trans Nat.and_le_right (by rw [hm]; exact Nat.le_refl _)
  refine ⟨(BitVec.ofInt 64 c &&& BitVec.ofInt 64 (m : Int)).toNat, h, ?_⟩
  show IntKind.i64.wrap (((BitVec.ofInt 64 c &&& BitVec.ofInt 64 (m : Int)).toNat : Nat) : Int) = _
  exact IntWalk.i64_in _ ⟨by omega, by omega⟩
theorem insR_end (x : Thing) : ∀ l : List Thing, (∀ y ∈ l, y.1 ≤ x.1) → insR x l = l ++ [x]
  | [], _ => rfl
  | y :: l, h => by
    have h1 := h y List.mem_cons_self
    unfold insR
    rw [if_neg (by omega), insR_end x l fun z hz => h z (List.mem_cons_of_mem _ hz)]
    rfl
/-- What is due behind i turns of M + 1 processes of pace p. -/
def fairAt (M : Nat) (p : Nat) (k : Nat) : Thing := (((p * (1 + k / (M + 1)) : Nat) : Int), ((k % (M + 1) : Nat) : Int))
def fairL (M p i : Nat) : List Thing := (List.range (M + 1)).map fun k => fairAt M p (i + k)
def fairT (M p i : Nat) : Int := if i = 0 then 0 else ((p * (1 + (i - 1) / (M + 1)) : Nat) : Int)
def fairS (M p i : Nat) : Stt := ⟨fairT M p i, fairL M p i, M + 1 + i⟩
theorem fair_new (M p : Nat) (hp : 0 < p) : ∀ k, k ≤ M + 1 → newT (List.replicate k (p : Int)) = (k, (List.range k).map (fairAt M p), k)
  | 0, _ => rfl
  | k + 1, hk => by
    have hpos : (0 : Int) < (p : Int) := by omega
    rw [List.replicate_succ', newT_add, fair_new M p hp k (by omega)]
    show (k + 1, dueL 0 (p : Int) k ((List.range k).map (fairAt M p)), dueN (p : Int) k) = _
    unfold dueL dueN
    rw [if_pos hpos, if_pos hpos, insR_end]
    · rw [List.range_succ, List.map_append]
      have e : fairAt M p k = ((0 : Int) + (p : Int), (k : Int)) := by
        unfold fairAt
        rw [Nat.div_eq_of_lt (by omega), Nat.mod_eq_of_lt (by omega), Nat.add_zero, Nat.mul_one, Int.zero_add]
      simp [e]
    · intro y hy
      obtain ⟨j, hj, rfl⟩ := List.mem_map.1 hy
      have hj : j < k := by simpa using hj
      unfold fairAt
      rw [Nat.div_eq_of_lt (by omega : j < M + 1)]
      show ((p * (1 + 0) : Nat) : Int) ≤ 0 + (p : Int)
      omega
theorem fair_start (M p : Nat) (hp : 0 < p) : newS (List.replicate (M + 1) (p : Int)) = fairS M p 0 := by
  unfold newS fairS fairL
  rw [fair_new M p hp _ (Nat.le_refl _)]
  show Stt.mk 0 ((List.range (M + 1)).map (fairAt M p)) (M + 1) = Stt.mk 0 _ (M + 1 + 0)
  congr 1
  refine List.map_congr_left fun k _ => ?_
  rw [Nat.zero_add]
theorem fair_head (M p i : Nat) : fairL M p i = fairAt M p i :: (List.range M).map fun k => fairAt M p (i + (k + 1)) := by
  unfold fairL
  rw [List.range_succ_eq_map, List.map_cons, List.map_map]
  rfl
theorem fair_tail (M p i : Nat) : fairL M p (i + 1) = ((List.range M).map fun k => fairAt M p (i + (k + 1))) ++ [fairAt M p (i + 1 + M)] := by
  unfold fairL
  rw [List.range_succ, List.map_append]
  congr 1
  refine List.map_congr_left fun k _ => ?_
  rw [show i + 1 + k = i + (k + 1) by omega]
theorem fair_le (M p : Nat) {a b : Nat} (h : a ≤ b) : (fairAt M p a).1 ≤ (fairAt M p b).1 := by
  unfold fairAt
  show ((p * (1 + a / (M + 1)) : Nat) : Int) ≤ ((p * (1 + b / (M + 1)) : Nat) : Int)
  have h1 : a / (M + 1) ≤ b / (M + 1) := Nat.div_le_div_right h
  have h2 : p * (1 + a / (M + 1)) ≤ p * (1 + b / (M + 1)) := Nat.mul_le_mul_left p (by omega)
  exact Int.ofNat_le.2 h2
theorem fair_step (M p i : Nat) (hp : 0 < p) : stepT (List.replicate (M + 1) (p : Int)) (fairS M p i) = some (((i % (M + 1) : Nat) : Int), fairS M p (i + 1)) := by
  have hj : i % (M + 1) < M + 1 := Nat.mod_lt _ (by omega)
  have hpa : paceAt (List.replicate (M + 1) (p : Int)) ((i % (M + 1) : Nat) : Int) = (p : Int) := by
    unfold paceAt
    rw [Int.toNat_natCast, List.getD_eq_getElem?_getD, List.getElem?_replicate, if_pos hj]; rfl
  have hpos : (0 : Int) < (p : Int) := by omega
  unfold stepT
  show (match fairL M p i with | [] => none | (t1, who) :: l => some (who, (⟨t1, dueL t1 (paceAt (List.replicate (M + 1) (p : Int)) who) who.toNat l, dueN (paceAt (List.replicate (M + 1) (p : Int)) who) (M + 1 + i)⟩ : Stt))) = _
  rw [fair_head]
  show some (((i % (M + 1) : Nat) : Int), (⟨((p * (1 + i / (M + 1)) : Nat) : Int), dueL ((p * (1 + i / (M + 1)) : Nat) : Int) (paceAt (List.replicate (M + 1) (p : Int)) ((i % (M + 1) : Nat) : Int)) ((i % (M + 1) : Nat) : Int).toNat ((List.range M).map fun k => fairAt M p (i + (k + 1))), dueN (paceAt (List.replicate (M + 1) (p : Int)) ((i % (M + 1) : Nat) : Int)) (M + 1 + i)⟩ : Stt)) = _
  rw [hpa, Int.toNat_natCast]
  unfold dueL dueN fairS
  rw [if_pos hpos, if_pos hpos, fair_tail]
  have e : fairAt M p (i + 1 + M) = (((p * (1 + i / (M + 1)) : Nat) : Int) + (p : Int), ((i % (M + 1) : Nat) : Int)) := by
    unfold fairAt
    have e1 : (i + 1 + M) / (M + 1) = i / (M + 1) + 1 := by
      rw [show i + 1 + M = i + (M + 1) by omega, Nat.add_div_right _ (by omega)]
    have e2 : (i + 1 + M) % (M + 1) = i % (M + 1) := by
      rw [show i + 1 + M = i + (M + 1) by omega, Nat.add_mod_right]
    rw [e1, e2]
    have h3 : p * (1 + (i / (M + 1) + 1)) = p * (1 + i / (M + 1)) + p := by rw [show 1 + (i / (M + 1) + 1) = (1 + i / (M + 1)) + 1 by omega, Nat.mul_succ]
    rw [h3]
    rfl
  rw [e, insR_end]
  · first | rfl | congr 3
  · intro y hy
    obtain ⟨k, hk, rfl⟩ := List.mem_map.1 hy
    have hk : k < M := by simpa using hk
    have := fair_le M p (show i + (k + 1) ≤ i + 1 + M by omega)
    rw [e] at this
    exact this
theorem pace_same (p : Nat) (hp : p ≤ 256) : ∀ k, (List.replicate k (p : Int)).map paceOf = List.replicate k (p : Int) := fun k => by
  rw [List.map_replicate]
  congr 1
  unfold paceOf
  rw [if_neg (by omega : ¬ (p : Int) < 0), if_neg (by omega)]
end Go.Proofs.Ytdojdhpfhjhmfaa
