/- The document's list answers as the plain words on towers say. -/
import Derived.Test.YtdkojpfhmohaeaaDoorTSLaw2
import Derived.Test.YtdkojpfhmohaeaaDoorAwake
import Derived.Test.YtdkojpfhmohaeaaDoorPTowerPlaysx1
import Derived.Test.YtdkojpfhmohaeaaDoorPTowerPlaysx2
set_option linter.unusedVariables false
namespace Go.Proofs.YtdkojpfhmohaeaaDoor
open PTowerPlays Go.RowKit Go.Proofs.YtdkojpfhmohaeaaDoorW.PrintWords Go.Proofs.YtdkojpfhmohaeaaDoorW.PrintLast Go.Proofs.YtdkojpfhmohaeaaDoorW.PrintMore
open TS Go.Proofs.TowerPlain
abbrev Ver := Int × ByteArray
def toS (x : Ver) : S48 := ⟨x.1, x.2⟩
theorem rd48 {l : List Ver} {i : Nat} {x : Ver} (h : l[i]? = some x) : rd_T48 (l.map toS) (i : Int) = toS x := by
  unfold rd_T48
  rw [Int.toNat_natCast, List.getD_eq_getElem?_getD, List.getElem?_map, h]
  rfl
theorem drop_at {α : Type} {l : List α} {i : Nat} {x : α} (h : l[i]? = some x) : l.drop i = x :: l.drop (i + 1) := by
  obtain ⟨hl, e⟩ := List.getElem?_eq_some_iff.1 h
  rw [List.drop_eq_getElem_cons hl, e]
theorem wrap_up {i n : Nat} (h : i < n) (hn : n ≤ 100000) : wrap64 ((i : Int) + 1) = ((i + 1 : Nat) : Int) := by unfold wrap64; omega
theorem insT_cc (x y : Ver) (t : List Ver) : insT x (y :: t) = if y.1 < x.1 then y :: insT x t else if y.1 = x.1 then x :: t else x :: y :: t := rfl
theorem hasT_c (v : Int) (y : Ver) (t : List Ver) : hasT v (y :: t) = ((y.1 == v) || hasT v t) := rfl
theorem hasT_gt {v : Int} {t : List Ver} (h : ∀ y ∈ t, v < y.1) : hasT v t = false := by
  unfold hasT
  rw [List.any_eq_false]
  intro y hy
  have := h y hy
  simp; omega
theorem sorted_drop {l : List Ver} (h : SortedT l) (i : Nat) : SortedT (l.drop i) := List.Pairwise.sublist (List.drop_sublist i l) h
theorem put_l0 (x : Ver) (l : List Ver) (hs : SortedT l) (hl : l.length ≤ 1000) : ∀ (d i k : Nat) (out : List S48) (was done : Bool), i + d = l.length → 3 * d < k → out.length + 2 * d ≤ 100000 → (done = true → ∀ y ∈ l.drop i, x.1 < y.1) →
    hindsightref13_Put.l0 k out was done (l.map toS) ((l.map toS).length : Int) (i : Int) x.1 x.2 = some (out ++ (if done = true then l.drop i else insT x (l.drop i)).map toS, was || (if done = true then false else hasT x.1 (l.drop i))) := by
  intro d
  induction d with
  | zero =>
    intro i k out was done hi hk ho hd
    obtain ⟨k, rfl⟩ : ∃ m, k = m + 1 := ⟨k - 1, by omega⟩
    have e : l.drop i = [] := List.drop_eq_nil_of_le (by omega)
    simp only [hindsightref13_Put.l0]
    rw [if_neg (by rw [List.length_map]; omega), e]
    cases done
    · rw [if_neg (by decide), if_pos (by omega)]; simp [insT, hasT]; rfl
    · rw [if_pos rfl]; simp
  | succ d ih =>
    intro i k out was done hi hk ho hd
    obtain ⟨k, rfl⟩ : ∃ m, k = m + 3 := ⟨k - 3, by omega⟩
    obtain ⟨y, hy⟩ : ∃ y, l[i]? = some y := ⟨l[i]'(by omega), List.getElem?_eq_getElem (by omega)⟩
    have hdr := drop_at hy
    have hsd := sorted_drop hs i
    rw [hdr] at hsd
    have hgt := List.pairwise_cons.1 hsd
    rw [show k + 3 = (k + 2) + 1 from rfl]
    simp only [hindsightref13_Put.l0]
    rw [if_pos (by rw [List.length_map]; omega), if_pos (by omega), if_pos (by rw [List.length_map]; omega), rd48 hy]
    have J : ∀ was', hindsightref13_Put.j1 (k + 2) out was' done (l.map toS) ((l.map toS).length : Int) (i : Int) x.1 x.2 (toS y).f0 (toS y).f1 = some (out ++ (if done = true then l.drop i else insT x (l.drop i)).map toS, was' || (if done = true then false else hasT x.1 (l.drop (i + 1)))) := by
      intro was'
      rw [show k + 2 = (k + 1) + 1 from rfl]
      simp only [hindsightref13_Put.j1]
      cases done with
      | true =>
        have hgx := hd rfl
        rw [hdr] at hgx
        have h1 : x.1 < y.1 := hgx y List.mem_cons_self
        rw [if_pos rfl]
        simp only [hindsightref13_Put.j2]
        rw [if_neg (by decide), if_neg (show ¬ (toS y).f0 = x.1 by show ¬ y.1 = x.1; omega), if_pos (by omega), wrap_up (n := l.length) (by omega) (by omega), ih (i + 1) k _ was' true (by omega) (by omega) (by simp; omega) (fun _ z hz => hgx z (List.mem_cons_of_mem _ hz)), hdr]
        simp [toS]
      | false =>
        rw [if_neg (by decide)]
        simp only [hindsightref13_Put.j2]
        rw [if_neg (show ¬ (false = true) by decide), if_neg (show ¬ (false = true) by decide), hdr, insT_cc]
        by_cases hle : x.1 ≤ y.1
        · rw [if_pos (show decide (x.1 ≤ (toS y).f0) = true from decide_eq_true hle), if_pos (by omega), if_neg (show ¬ y.1 < x.1 by omega)]
          simp only [Option.bind_some]
          have hr : ∀ z ∈ l.drop (i + 1), x.1 < z.1 := fun z hz => by have := hgt.1 z hz; omega
          have hno := hasT_gt hr
          by_cases he : y.1 = x.1
          · rw [if_pos (show (toS y).f0 = x.1 from he), if_pos he, wrap_up (n := l.length) (by omega) (by omega), ih (i + 1) k _ was' true (by omega) (by omega) (by simp; omega) (fun _ => hr), hno]
            simp [toS]
          · rw [if_neg (show ¬ (toS y).f0 = x.1 from he), if_neg he, if_pos (by simp; omega), wrap_up (n := l.length) (by omega) (by omega), ih (i + 1) k _ was' true (by omega) (by omega) (by simp; omega) (fun _ => hr), hno]
            simp [toS]
        · rw [if_neg (show ¬ decide (x.1 ≤ (toS y).f0) = true from fun h => hle (of_decide_eq_true h)), if_pos (show y.1 < x.1 by omega), if_neg (show ¬ (toS y).f0 = x.1 by show ¬ y.1 = x.1; omega), if_pos (by omega), wrap_up (n := l.length) (by omega) (by omega), ih (i + 1) k _ was' false (by omega) (by omega) (by simp; omega) (fun h => by cases h)]
          simp [toS]
    by_cases he : y.1 = x.1
    · rw [if_pos (show (toS y).f0 = x.1 from he), J true]
      congr 2
      cases done with
      | true =>
        have h1 := hd rfl
        rw [hdr] at h1
        have := h1 y List.mem_cons_self
        omega
      | false =>
        rw [if_neg (by decide), if_neg (by decide), hdr, hasT_c]
        simp [he]
    · rw [if_neg (show ¬ (toS y).f0 = x.1 from he), J was]
      congr 2
      cases done with
      | true => rfl
      | false =>
        rw [if_neg (by decide), if_neg (by decide), hdr, hasT_c, show (y.1 == x.1) = false by simpa using he, Bool.false_or]
theorem put_f (x : Ver) (l : List Ver) (hs : SortedT l) (hl : l.length ≤ 1000) : hindsightref13_Put.f 4000 (l.map toS) x.1 x.2 = some ((insT x l).map toS, hasT x.1 l) := by
  unfold hindsightref13_Put.f
  have := put_l0 x l hs hl l.length 0 4000 [] false false (by omega) (by omega) (by simp; omega) (fun h => by cases h)
  simpa using this
theorem cut_l0 (a b : Int) (l : List Ver) (hl : l.length ≤ 1000) : ∀ (d i k : Nat) (out : List S48), i + d = l.length → d < k → out.length + d ≤ 100000 →
    hindsightref13_Cut.l0 k a b out (l.map toS) ((l.map toS).length : Int) (i : Int) = some (out ++ (cutT a b (l.drop i)).map toS) := by
  intro d
  induction d with
  | zero =>
    intro i k out hi hk ho
    obtain ⟨k, rfl⟩ : ∃ m, k = m + 1 := ⟨k - 1, by omega⟩
    have e : l.drop i = [] := List.drop_eq_nil_of_le (by omega)
    simp only [hindsightref13_Cut.l0]
    rw [if_neg (by rw [List.length_map]; omega), e]
    simp [cutT]
  | succ d ih =>
    intro i k out hi hk ho
    obtain ⟨k, rfl⟩ : ∃ m, k = m + 1 := ⟨k - 1, by omega⟩
    obtain ⟨y, hy⟩ : ∃ y, l[i]? = some y := ⟨l[i]'(by omega), List.getElem?_eq_getElem (by omega)⟩
    simp only [hindsightref13_Cut.l0]
    rw [if_pos (by rw [List.length_map]; omega), if_pos (by omega), if_pos (by rw [List.length_map]; omega), rd48 hy, drop_at hy, wrap_up (n := l.length) (by omega) (by omega)]
    by_cases h1 : y.1 < a
    · rw [if_pos (show (toS y).f0 < a from h1), if_pos (by omega), ih (i + 1) k _ (by omega) (by omega) (by simp; omega)]
      simp [cutT, h1, toS]
    · rw [if_neg (show ¬ (toS y).f0 < a from h1)]
      by_cases h2 : y.1 ≥ b
      · rw [if_pos (show (toS y).f0 ≥ b from h2), if_pos (by omega), ih (i + 1) k _ (by omega) (by omega) (by simp; omega)]
        simp [cutT, show b ≤ y.1 from h2, toS]
      · rw [if_neg (show ¬ (toS y).f0 ≥ b from h2), ih (i + 1) k _ (by omega) (by omega) (by omega)]
        simp [cutT, h1, show ¬ b ≤ y.1 from h2]
theorem cut_f (a b : Int) (l : List Ver) (hl : l.length ≤ 1000) : hindsightref13_Cut.f 4000 (l.map toS) a b = some ((cutT a b l).map toS) := by
  unfold hindsightref13_Cut.f
  have := cut_l0 a b l hl l.length 0 4000 [] (by omega) (by omega) (by simp; omega)
  simpa using this
/-- What Floor answers, as three. -/
def floor3 (o : Option Ver) (a : Int) (b : ByteArray) (is : Bool) : Int × ByteArray × Bool := match o with
  | some r => (r.1, r.2, true)
  | none => (a, b, is)
theorem floor_l0 (v : Int) (l : List Ver) (hl : l.length ≤ 1000) : ∀ (d i k : Nat) (a : Int) (b : ByteArray) (is : Bool), i + d = l.length → d < k →
    hindsightref13_Floor.l0 k v is (l.map toS) ((l.map toS).length : Int) (i : Int) a b = some (floor3 (floorT v (l.drop i)) a b is) := by
  intro d
  induction d with
  | zero =>
    intro i k a b is hi hk
    obtain ⟨k, rfl⟩ : ∃ m, k = m + 1 := ⟨k - 1, by omega⟩
    have e : l.drop i = [] := List.drop_eq_nil_of_le (by omega)
    simp only [hindsightref13_Floor.l0]
    rw [if_neg (by rw [List.length_map]; omega), e]
    rfl
  | succ d ih =>
    intro i k a b is hi hk
    obtain ⟨k, rfl⟩ : ∃ m, k = m + 1 := ⟨k - 1, by omega⟩
    obtain ⟨y, hy⟩ : ∃ y, l[i]? = some y := ⟨l[i]'(by omega), List.getElem?_eq_getElem (by omega)⟩
    simp only [hindsightref13_Floor.l0]
    rw [if_pos (by rw [List.length_map]; omega), if_pos (by omega), if_pos (by rw [List.length_map]; omega), rd48 hy, drop_at hy, wrap_up (n := l.length) (by omega) (by omega)]
    by_cases h1 : y.1 ≤ v
    · rw [if_pos (show (toS y).f0 ≤ v from h1), ih (i + 1) k _ _ _ (by omega) (by omega)]
      unfold floorT
      rw [List.filter_cons_of_pos (by simpa using h1), List.getLast?_cons]
      cases (List.filter (fun x => decide (x.1 ≤ v)) (List.drop (i + 1) l)).getLast? <;> rfl
    · rw [if_neg (show ¬ (toS y).f0 ≤ v from h1), ih (i + 1) k _ _ _ (by omega) (by omega)]
      unfold floorT
      rw [List.filter_cons_of_neg (by simpa using h1)]
theorem floor_f (v : Int) (l : List Ver) (hl : l.length ≤ 1000) : hindsightref13_Floor.f 4000 (l.map toS) v = some (floor3 (floorT v l) 0 (⟨#[]⟩ : ByteArray) false) := by
  unfold hindsightref13_Floor.f
  exact floor_l0 v l hl l.length 0 4000 _ _ _ (by omega) (by omega)
theorem vers_l0 (l : List Ver) (hl : l.length ≤ 1000) : ∀ (d i k : Nat) (out : List Int), i + d = l.length → d < k → out.length + d ≤ 100000 →
    hindsightlaw13_versions.l0 k out (l.map toS) ((l.map toS).length : Int) (i : Int) = some (out ++ (l.drop i).map (·.1)) := by
  intro d
  induction d with
  | zero =>
    intro i k out hi hk ho
    obtain ⟨k, rfl⟩ : ∃ m, k = m + 1 := ⟨k - 1, by omega⟩
    have e : l.drop i = [] := List.drop_eq_nil_of_le (by omega)
    simp only [hindsightlaw13_versions.l0]
    rw [if_neg (by rw [List.length_map]; omega), e]
    simp
  | succ d ih =>
    intro i k out hi hk ho
    obtain ⟨k, rfl⟩ : ∃ m, k = m + 1 := ⟨k - 1, by omega⟩
    obtain ⟨y, hy⟩ : ∃ y, l[i]? = some y := ⟨l[i]'(by omega), List.getElem?_eq_getElem (by omega)⟩
    simp only [hindsightlaw13_versions.l0]
    rw [if_pos (by rw [List.length_map]; omega), if_pos (by omega), if_pos (by rw [List.length_map]; omega), rd48 hy, drop_at hy, wrap_up (n := l.length) (by omega) (by omega), if_pos (by omega), ih (i + 1) k _ (by omega) (by omega) (by simp; omega)]
    simp [toS]
theorem vers_f (l : List Ver) (hl : l.length ≤ 1000) : hindsightlaw13_versions.f 4000 (l.map toS) = some (l.map (·.1)) := by
  unfold hindsightlaw13_versions.f
  have := vers_l0 l hl l.length 0 4000 [] (by omega) (by omega) (by simp; omega)
  simpa using this
theorem height_l0 : ∀ (d i k x : Nat), i + d = 9 → d < k → 0 < x → x ≤ 9223372036854775807 →
    hindsightref13_Height.l0 k (x : Int) ((i : Int) + 1) (i : Int) = some ((min (i + Lib.ctzFrom (d + 55) x + 1) 10 : Nat) : Int) := by
  intro d
  induction d with
  | zero =>
    intro i k x hi hk hx hx2
    obtain ⟨k, rfl⟩ : ∃ m, k = m + 1 := ⟨k - 1, by omega⟩
    simp only [hindsightref13_Height.l0]
    rw [if_neg (by omega)]
    congr 1
    omega
  | succ d ih =>
    intro i k x hi hk hx hx2
    obtain ⟨k, rfl⟩ : ∃ m, k = m + 1 := ⟨k - 1, by omega⟩
    simp only [hindsightref13_Height.l0]
    rw [if_pos (by omega), show d + 1 + 55 = (d + 55) + 1 by omega]
    by_cases hm : x % 2 = 0
    · rw [if_pos (by rw [Int.tmod_eq_emod_of_nonneg (by omega)]; omega), Int.tdiv_eq_ediv_of_nonneg (by omega), show wrap64 ((x : Int) / 2) = ((x / 2 : Nat) : Int) by unfold wrap64; omega, show wrap64 ((i : Int) + 1 + 1) = ((i + 1 : Nat) : Int) + 1 by unfold wrap64; omega, show wrap64 ((i : Int) + 1) = ((i + 1 : Nat) : Int) by unfold wrap64; omega, ih (i + 1) k (x / 2) (by omega) (by omega) (by omega) (by omega), ctz_step _ _ hm]
      congr 2
      omega
    · rw [if_neg (by rw [Int.tmod_eq_emod_of_nonneg (by omega)]; omega), ctz_stop _ _ (by omega)]
      congr 1
      omega
theorem height_f (v : Int) (hv : v ≤ 9223372036854775807) (k : Nat) (hk : 10 ≤ k) : hindsightref13_Height.f k v = some (hgt v : Int) := by
  unfold hindsightref13_Height.f hgt
  by_cases h : v ≤ 0
  · rw [if_pos h, if_pos h]; rfl
  · rw [if_neg h, if_neg h]
    obtain ⟨x, rfl⟩ : ∃ x : Nat, v = x := ⟨v.toNat, by omega⟩
    have := height_l0 9 0 k x (by omega) (by omega) (by omega) (by omega)
    rw [show ((0 : Nat) : Int) = 0 from rfl, show (0 : Int) + 1 = 1 from rfl] at this
    rw [this, Int.toNat_natCast, ctz_eq (by omega), Nat.zero_add]
/-- The versions on a level, for any whole number. -/
def levelZ (h : Int) (l : List Ver) : List Int := (l.filter fun x => decide (0 ≤ h ∧ h < (hgt x.1 : Int))).map (·.1)
theorem levelZ_nat (k : Nat) (l : List Ver) : levelZ (k : Int) l = levelT k l := by
  unfold levelZ levelT
  congr 1
  refine List.filter_congr fun x _ => ?_
  rw [decide_eq_decide]
  omega
theorem levelZ_neg {h : Int} (hh : h < 0) (l : List Ver) : levelZ h l = [] := by
  unfold levelZ
  rw [List.map_eq_nil_iff, List.filter_eq_nil_iff]
  intro a _
  simp; omega
theorem levelZ_len (h : Int) (l : List Ver) : (levelZ h l).length ≤ l.length := by unfold levelZ; rw [List.length_map]; exact List.length_filter_le _ _
def Small (l : List Ver) : Prop := ∀ y ∈ l, y.1 ≤ 9223372036854775807
theorem level_l0 (h : Int) (l : List Ver) (hs : Small l) (hl : l.length ≤ 1000) : ∀ (d i k : Nat) (out : List Int), i + d = l.length → d + 11 ≤ k → out.length + d ≤ 100000 →
    hindsightref13_Level.l0 k h out (l.map toS) ((l.map toS).length : Int) (i : Int) = some (out ++ levelZ h (l.drop i)) := by
  intro d
  induction d with
  | zero =>
    intro i k out hi hk ho
    obtain ⟨k, rfl⟩ : ∃ m, k = m + 1 := ⟨k - 1, by omega⟩
    have e : l.drop i = [] := List.drop_eq_nil_of_le (by omega)
    simp only [hindsightref13_Level.l0]
    rw [if_neg (by rw [List.length_map]; omega), e]
    simp [levelZ]
  | succ d ih =>
    intro i k out hi hk ho
    obtain ⟨k, rfl⟩ : ∃ m, k = m + 1 := ⟨k - 1, by omega⟩
    obtain ⟨y, hy⟩ : ∃ y, l[i]? = some y := ⟨l[i]'(by omega), List.getElem?_eq_getElem (by omega)⟩
    simp only [hindsightref13_Level.l0]
    rw [if_pos (by rw [List.length_map]; omega), if_pos (by omega), if_pos (by rw [List.length_map]; omega), rd48 hy, drop_at hy, wrap_up (n := l.length) (by omega) (by omega)]
    by_cases h0 : h ≥ 0
    · rw [if_pos h0, show (toS y).f0 = y.1 from rfl, height_f y.1 (hs y (List.mem_of_getElem? hy)) k (by omega)]
      simp only [Option.bind_some]
      by_cases h1 : (hgt y.1 : Int) > h
      · rw [if_pos h1, if_pos (by omega), ih (i + 1) k _ (by omega) (by omega) (by simp; omega)]
        unfold levelZ
        rw [List.filter_cons_of_pos (by simp; omega)]
        simp
      · rw [if_neg h1, ih (i + 1) k _ (by omega) (by omega) (by omega)]
        unfold levelZ
        rw [List.filter_cons_of_neg (by simp; omega)]
    · rw [if_neg h0, ih (i + 1) k _ (by omega) (by omega) (by omega)]
      unfold levelZ
      rw [List.filter_cons_of_neg (by simp; omega)]
theorem level_f (h : Int) (l : List Ver) (hs : Small l) (hl : l.length ≤ 1000) (k : Nat) (hk : l.length + 11 ≤ k) : hindsightref13_Level.f k (l.map toS) h = some (levelZ h l) := by
  unfold hindsightref13_Level.f
  have := level_l0 h l hs hl l.length 0 k [] (by omega) (by omega) (by simp; omega)
  simpa using this
end Go.Proofs.YtdkojpfhmohaeaaDoor
