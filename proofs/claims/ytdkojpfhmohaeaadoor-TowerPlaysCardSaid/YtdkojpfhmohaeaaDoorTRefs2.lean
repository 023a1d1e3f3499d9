/- The document's count of a search's steps is the plain one. -/
import Derived.Test.YtdkojpfhmohaeaaDoorTRefs
set_option linter.unusedVariables false
namespace Go.Proofs.YtdkojpfhmohaeaaDoor
open PTowerPlays Go.RowKit Go.Proofs.YtdkojpfhmohaeaaDoorW.PrintWords Go.Proofs.YtdkojpfhmohaeaaDoorW.PrintLast Go.Proofs.YtdkojpfhmohaeaaDoorW.PrintMore
open TS Go.Proofs.TowerPlain
def scan (v : Int) : List Int → Nat × Int × Bool → Nat × Int × Bool
  | [], s => s
  | y :: D, (c, last, any) => if y ≤ v ∧ (any = true → last < y) then scan v D (c + 1, y, true) else scan v D (c, last, any)
theorem scan_c (v y : Int) (D : List Int) (c : Nat) (last : Int) (any : Bool) : scan v (y :: D) (c, last, any) = if y ≤ v ∧ (any = true → last < y) then scan v D (c + 1, y, true) else scan v D (c, last, any) := rfl
theorem scan_app (v : Int) : ∀ (A B : List Int) (s : Nat × Int × Bool), scan v (A ++ B) s = scan v B (scan v A s)
  | [], B, s => rfl
  | y :: A, B, (c, last, any) => by
    show scan v (y :: (A ++ B)) (c, last, any) = _
    rw [scan_c, scan_c]
    split <;> exact scan_app v A B _
theorem scan_filter (v : Int) : ∀ (A : List Int) (s : Nat × Int × Bool), scan v A s = scan v (A.filter fun y => decide (y ≤ v)) s
  | [], s => rfl
  | y :: A, (c, last, any) => by
    by_cases h : y ≤ v
    · rw [List.filter_cons_of_pos (by simpa using h), scan_c, scan_c]
      split <;> exact scan_filter v A _
    · rw [List.filter_cons_of_neg (by simpa using h)]
      rw [scan_c, if_neg (fun e => h e.1)]
      exact scan_filter v A _
theorem scan_low (v : Int) (c : Nat) (last : Int) : ∀ (A : List Int), (∀ y ∈ A, y ≤ last) → scan v A (c, last, true) = (c, last, true)
  | [], _ => rfl
  | y :: A, h => by
    have h1 := h y List.mem_cons_self
    rw [scan_c, if_neg (fun e => by have := e.2 rfl; omega)]
    exact scan_low v c last A fun z hz => h z (List.mem_cons_of_mem _ hz)
theorem scan_up (v : Int) : ∀ (A : List Int) (c : Nat) (last : Int) (any : Bool), A.Pairwise (· < ·) → (∀ y ∈ A, y ≤ v) → (any = true → ∀ y ∈ A, last < y) → scan v A (c, last, any) = (c + A.length, A.getLast?.getD last, any || !A.isEmpty)
  | [], c, last, any, _, _, _ => by simp [scan]
  | y :: A, c, last, any, hp, hv, hl => by
    have hp' := List.pairwise_cons.1 hp
    rw [scan_c, if_pos ⟨hv y List.mem_cons_self, fun e => hl e y List.mem_cons_self⟩, scan_up v A (c + 1) y true hp'.2 (fun z hz => hv z (List.mem_cons_of_mem _ hz)) (fun _ => hp'.1)]
    rw [List.getLast?_cons]
    simp
    omega
theorem rd_at {D : List Int} {j : Nat} {y : Int} (h : D[j]? = some y) : rd D (j : Int) = y := by
  unfold rd
  rw [Int.toNat_natCast, List.getD_eq_getElem?_getD, h]
  rfl
theorem steps_l1 (l : List Ver) (v : Int) (i : Int) (D : List Int) (hD : D.length ≤ 1000) : ∀ (d j k0 k : Nat) (c : Nat) (last : Int) (any : Bool), j + d = D.length → k = k0 + d + 1 → c + d ≤ 200000 →
    hindsightref13_Steps.l1 k (l.map toS) v (c : Int) last any i D (D.length : Int) (j : Int) =
      hindsightref13_Steps.l0 k0 (l.map toS) v ((scan v (D.drop j) (c, last, any)).1 : Int) (scan v (D.drop j) (c, last, any)).2.1 (scan v (D.drop j) (c, last, any)).2.2 (wrap64 (i + 1)) := by
  intro d
  induction d with
  | zero =>
    intro j k0 k c last any hj hk hc
    obtain rfl : k = k0 + 1 := by omega
    have e : D.drop j = [] := List.drop_eq_nil_of_le (by omega)
    simp only [hindsightref13_Steps.l1]
    rw [if_neg (by omega), e]
    rfl
  | succ d ih =>
    intro j k0 k c last any hj hk hc
    obtain ⟨K, hK⟩ : ∃ K, k0 + d + 1 = K := ⟨_, rfl⟩
    obtain rfl : k = K + 1 := by omega
    obtain ⟨y, hy⟩ : ∃ y, D[j]? = some y := ⟨D[j]'(by omega), List.getElem?_eq_getElem (by omega)⟩
    simp only [hindsightref13_Steps.l1]
    rw [if_pos (by omega), if_pos (by omega), if_pos (by omega), rd_at hy, drop_at hy, wrap_up (i := j) (n := D.length) (by omega) (by omega), show wrap64 ((c : Int) + 1) = ((c + 1 : Nat) : Int) by unfold wrap64; omega]
    have I1 := ih (j + 1) k0 K (c + 1) y true (by omega) hK.symm (by omega)
    have I2 := ih (j + 1) k0 K c last any (by omega) hK.symm (by omega)
    by_cases h1 : y ≤ v
    · rw [if_pos h1]
      cases any with
      | false =>
        rw [if_neg (by decide), scan_c, if_pos ⟨h1, fun e => by cases e⟩]
        exact I1
      | true =>
        rw [if_pos rfl]
        by_cases h2 : y > last
        · rw [if_pos h2, scan_c, if_pos ⟨h1, fun _ => h2⟩]
          exact I1
        · rw [if_neg h2, scan_c, if_neg (fun e => h2 (e.2 rfl))]
          exact I2
    · rw [if_neg h1, scan_c, if_neg (fun e => h1 e.1)]
      exact I2
/-- Behind which versions a search stands. -/
def Sc (F : List Ver) (R : List Ver) (last : Int) (any : Bool) : Prop := ∃ P, F = P ++ R ∧ (any = true → (∀ y ∈ P, y.1 ≤ last) ∧ ∀ y ∈ R, last < y.1) ∧ (any = false → P = [])
def hs (R : List Ver) : List Nat := R.map fun x => hgt x.1
theorem hs_low {k : Nat} {R : List Ver} (h : ∀ x ∈ R, hgt x.1 ≤ k) : ∀ x ∈ hs R, x ≤ k := fun x hx => by obtain ⟨y, hy, rfl⟩ := List.mem_map.1 hx; exact h y hy
theorem levelT_app (k : Nat) (A B : List Ver) : levelT k (A ++ B) = levelT k A ++ levelT k B := by unfold levelT; rw [List.filter_append, List.map_append]
theorem levelT_filter (k : Nat) (v : Int) (l : List Ver) : (levelT k l).filter (fun y => decide (y ≤ v)) = levelT k (l.filter fun x => decide (x.1 ≤ v)) := by
  unfold levelT
  rw [List.filter_map, List.filter_filter, List.filter_filter]
  congr 1
  refine List.filter_congr fun x _ => ?_
  simp [Bool.and_comm, Function.comp]
theorem levelT_mem {k : Nat} {R : List Ver} {y : Int} (h : y ∈ levelT k R) : ∃ x ∈ R, x.1 = y := by
  unfold levelT at h
  obtain ⟨x, hx, e⟩ := List.mem_map.1 h
  exact ⟨x, (List.mem_filter.1 hx).1, e⟩
theorem levelT_up {k : Nat} {R : List Ver} (h : SortedT R) : (levelT k R).Pairwise (· < ·) := by
  unfold levelT
  rw [List.pairwise_map]
  exact List.Pairwise.sublist List.filter_sublist h
theorem levelT_hs (k : Nat) (R : List Ver) : (levelT k R).length = ((hs R).filter fun x => decide (k < x)).length := by
  unfold levelT hs
  rw [List.filter_map, List.length_map, List.length_map]
  rfl
/-- The last one that is higher. -/
theorem last_high (k : Nat) (R : List Ver) : (∀ x ∈ R, hgt x.1 ≤ k) ∨ ∃ R1 y R2, R = R1 ++ y :: R2 ∧ k < hgt y.1 ∧ ∀ x ∈ R2, hgt x.1 ≤ k := by
  induction R with
  | nil => exact .inl fun x hx => by cases hx
  | cons c R ih =>
    rcases ih with h | ⟨R1, y, R2, rfl, h1, h2⟩
    · by_cases hc : k < hgt c.1
      · exact .inr ⟨[], c, R, rfl, hc, h⟩
      · refine .inl fun x hx => ?_
        rcases List.mem_cons.1 hx with rfl | hx
        · omega
        · exact h x hx
    · exact .inr ⟨c :: R1, y, R2, rfl, h1, h2⟩
theorem levelT_low {k : Nat} {R : List Ver} (h : ∀ x ∈ R, hgt x.1 ≤ k) : levelT k R = [] := by
  unfold levelT
  rw [List.map_eq_nil_iff, List.filter_eq_nil_iff]
  intro x hx
  have := h x hx
  simp; omega
theorem sc_step {v : Int} {l R : List Ver} {last : Int} {any : Bool} {c : Nat} (hs0 : SortedT l) (h : Sc (l.filter fun x => decide (x.1 ≤ v)) R last any) (k : Nat) :
    ∃ R' last' any', scan v (levelT k l) (c, last, any) = (c + ((hs R).filter fun x => decide (k < x)).length, last', any') ∧ Sc (l.filter fun x => decide (x.1 ≤ v)) R' last' any' ∧ hs R' = afterH k (hs R) := by
  obtain ⟨P, hF, h1, h2⟩ := h
  have hsF : SortedT (P ++ R) := by rw [← hF]; exact List.Pairwise.sublist List.filter_sublist hs0
  have hle : ∀ y ∈ P ++ R, y.1 ≤ v := fun y hy => by rw [← hF] at hy; simpa using (List.mem_filter.1 hy).2
  have hR := (List.pairwise_append.1 hsF).2.1
  have e1 : scan v (levelT k l) (c, last, any) = scan v (levelT k R) (c, last, any) := by
    rw [scan_filter, levelT_filter, hF, levelT_app, scan_app]
    congr 1
    cases any with
    | false => rw [h2 rfl]; rfl
    | true =>
      refine scan_low v c last _ fun y hy => ?_
      obtain ⟨x, hx, rfl⟩ := levelT_mem hy
      exact (h1 rfl).1 x hx
  have e2 := scan_up v (levelT k R) c last any (levelT_up hR) (fun y hy => by obtain ⟨x, hx, rfl⟩ := levelT_mem hy; exact hle x (List.mem_append_right _ hx)) (fun e y hy => by obtain ⟨x, hx, rfl⟩ := levelT_mem hy; exact (h1 e).2 x hx)
  rw [e1, e2, levelT_hs]
  rcases last_high k R with hlow | ⟨R1, y, R2, rfl, hy, hlow⟩
  · refine ⟨R, last, any, ?_, ⟨P, hF, h1, h2⟩, (afterH_low (hs_low hlow)).symm⟩
    rw [levelT_low hlow]
    simp
  · have e3 : levelT k (R1 ++ y :: R2) = levelT k R1 ++ [y.1] := by
      rw [levelT_app]
      congr 1
      have : levelT k (y :: R2) = y.1 :: levelT k R2 := by unfold levelT; rw [List.filter_cons_of_pos (by simpa using hy)]; rfl
      rw [this, levelT_low hlow]
    refine ⟨R2, y.1, true, ?_, ⟨P ++ (R1 ++ [y]), by rw [hF]; simp, fun _ => ⟨fun z hz => ?_, fun z hz => ?_⟩, fun e => by cases e⟩, ?_⟩
    · rw [e3]
      simp
    · have hA : SortedT ((P ++ R1) ++ y :: R2) := by rw [List.append_assoc]; exact hsF
      rw [← List.append_assoc] at hz
      rcases List.mem_append.1 hz with hz | hz
      · have := (List.pairwise_append.1 hA).2.2 z hz y List.mem_cons_self
        omega
      · simp at hz; rw [hz]; exact Int.le_refl _
    · exact (List.pairwise_cons.1 (List.pairwise_append.1 hR).2.1).1 z hz
    · show hs R2 = afterH k (hs (R1 ++ y :: R2))
      unfold hs
      rw [List.map_append, List.map_cons, afterH_high hy, afterH_low]
      exact hs_low hlow
theorem steps_l0 (l : List Ver) (v : Int) (hso : SortedT l) (hsm : Small l) (hl : l.length ≤ 100) : ∀ (m i k c : Nat) (last : Int) (any : Bool) (R : List Ver), i + m = 10 → m * 102 + 112 ≤ k → Sc (l.filter fun x => decide (x.1 ≤ v)) R last any → c + R.length ≤ 100000 →
    hindsightref13_Steps.l0 k (l.map toS) v (c : Int) last any (i : Int) = some ((c + stepsH m (hs R) : Nat) : Int) := by
  intro m
  induction m with
  | zero =>
    intro i k c last any R hi hk hS hc
    obtain ⟨k, rfl⟩ : ∃ m, k = m + 1 := ⟨k - 1, by omega⟩
    simp only [hindsightref13_Steps.l0]
    rw [if_neg (by omega)]
    simp [stepsH]
  | succ m ih =>
    intro i k c last any R hi hk hS hc
    obtain ⟨k, rfl⟩ : ∃ m, k = m + 1 := ⟨k - 1, by omega⟩
    simp only [hindsightref13_Steps.l0]
    have hlen : (levelT m l).length ≤ 100 := by unfold levelT; rw [List.length_map]; exact Nat.le_trans (List.length_filter_le _ _) hl
    rw [if_pos (by omega), show wrap64 (9 - (i : Int)) = (m : Int) by unfold wrap64; omega, level_f _ l hsm (by omega) k (by omega), levelZ_nat]
    simp only [Option.bind_some]
    obtain ⟨R', last', any', e, hS', eh⟩ := sc_step (c := c) hso hS m
    have h0 := steps_l1 l v (i : Int) (levelT m l) (by omega) (levelT m l).length 0 (k - (levelT m l).length - 1) k c last any (by omega) (by omega) (by omega)
    rw [show ((0 : Nat) : Int) = 0 from rfl, List.drop_zero, e] at h0
    rw [h0, show wrap64 ((i : Int) + 1) = ((i + 1 : Nat) : Int) by unfold wrap64; omega]
    have hle := afterH_le m (hs R)
    have e5 : (hs R').length = R'.length := List.length_map _
    have e6 : (hs R).length = R.length := List.length_map _
    rw [← eh] at hle
    rw [ih (i + 1) _ _ last' any' R' (by omega) (by omega) hS' (by omega), eh]
    congr 2
    show _ = c + (((hs R).filter fun x => decide (m < x)).length + stepsH m (afterH m (hs R)))
    omega
theorem steps_f (l : List Ver) (v : Int) (hso : SortedT l) (hsm : Small l) (hl : l.length ≤ 100) : hindsightref13_Steps.f 4000 (l.map toS) v = some ((stepsT v l : Nat) : Int) := by
  unfold hindsightref13_Steps.f
  have := steps_l0 l v hso hsm hl 10 0 4000 0 0 false (l.filter fun x => decide (x.1 ≤ v)) (by omega) (by omega) ⟨[], rfl, (fun h => by cases h), fun _ => rfl⟩ (by have := List.length_filter_le (fun x : Ver => decide (x.1 ≤ v)) l; omega)
  rw [Nat.zero_add] at this
  exact this
end Go.Proofs.YtdkojpfhmohaeaaDoor
