import Derived.Test.YtpcfgigmchndjaaAct
import Derived.Test.YtpcfgigmchndjaaPCellsPlaysx1
import Derived.Test.YtpcfgigmchndjaaPCellsPlaysx2
import Derived.Test.YtpcfgigmchndjaaPCellsPlaysx3
namespace Go.Proofs.Ytpcfgigmchndjaa
open PCellsPlays Go.RowKit
def toS (d : Dn) : S56 := ⟨d.who, ⟨d.k, d.c, d.old, d.nw⟩, d.is⟩
/-- What a cell holds behind some; how many Swaps of it were done. -/
def hdStep (cell : Int) (s : ByteArray) (d : Dn) : ByteArray := if d.c = cell ∧ d.k > 1 ∧ d.is = true then d.nw else s
def refHolds (log : List Dn) (cell : Int) : ByteArray := log.foldl (hdStep cell) ⟨#[]⟩
def swp (cell : Int) (d : Dn) : Bool := decide (d.c = cell ∧ d.k = 3 ∧ d.is = true)
def refSwaps (log : List Dn) (cell : Int) : Int := ((log.filter (swp cell)).length : Int)
theorem rd_toS {log : List Dn} {i : Nat} {d : Dn} (h : log[i]? = some d) : rd_T56 (log.map toS) (i : Int) = toS d := by
  simp [rd_T56, h]
theorem wrap_i (i : Nat) (h : i ≤ 1000) : wrap64 ((i : Int) + 1) = ((i + 1 : Nat) : Int) := IntWalk.wrap64_in _ ⟨by omega, by omega⟩
theorem holds_l0 (cell : Int) (log : List Dn) (hl : log.length ≤ 1000) : ∀ (m i k : Nat) (s : ByteArray), i + m = log.length → m < k → hindsightref15_Holds.l0 k cell s (log.map toS) (log.length : Int) (i : Int) = some ((log.drop i).foldl (hdStep cell) s) := by
  intro m
  induction m with
  | zero =>
    intro i k s hi hk
    obtain ⟨k, rfl⟩ : ∃ k', k = k' + 1 := ⟨k - 1, by omega⟩
    rw [hindsightref15_Holds.l0, if_neg (by omega), List.drop_of_length_le (by omega)]
    rfl
  | succ m ih =>
    intro i k s hi hk
    obtain ⟨k, rfl⟩ : ∃ k', k = k' + 1 := ⟨k - 1, by omega⟩
    have hlt : i < log.length := by omega
    have hd : log[i]? = some log[i] := List.getElem?_eq_getElem hlt
    rw [hindsightref15_Holds.l0, if_pos (by omega), if_pos (by omega), if_pos (by simp; omega), rd_toS hd, wrap_i i (by omega), List.drop_eq_getElem_cons hlt, List.foldl_cons]
    generalize log[i] = d
    by_cases h1 : (toS d).f1.f1 = cell
    · by_cases h2 : (toS d).f1.f0 > 1
      · by_cases h3 : (toS d).f2 = true
        · rw [if_pos h1, if_pos h2, if_pos h3, show hdStep cell s d = (toS d).f1.f3 from if_pos ⟨h1, h2, h3⟩]; exact ih _ _ _ (by omega) (by omega)
        · rw [if_pos h1, if_pos h2, if_neg h3, show hdStep cell s d = s from if_neg (fun h => h3 h.2.2)]; exact ih _ _ _ (by omega) (by omega)
      · rw [if_pos h1, if_neg h2, show hdStep cell s d = s from if_neg (fun h => h2 h.2.1)]; exact ih _ _ _ (by omega) (by omega)
    · rw [if_neg h1, show hdStep cell s d = s from if_neg (fun h => h1 h.1)]; exact ih _ _ _ (by omega) (by omega)
theorem holds_f (log : List Dn) (hl : log.length ≤ 1000) (cell : Int) (k : Nat) (hk : 1000 < k) : hindsightref15_Holds.f k (log.map toS) cell = some (refHolds log cell) := by
  unfold hindsightref15_Holds.f
  rw [List.length_map]
  exact holds_l0 cell log hl log.length 0 k _ (by omega) (by omega)
theorem count_l0 (x : Int) (log : List Dn) (hl : log.length ≤ 1000) : ∀ (m i k : Nat) (z : Int), i + m = log.length → m < k → 0 ≤ z → z ≤ i → hindsightref15_Count.l0 k x z (log.map toS) (log.length : Int) (i : Int) = some (z + cntOf (log.drop i) x) := by
  intro m
  induction m with
  | zero =>
    intro i k z hi hk h0 h1
    obtain ⟨k, rfl⟩ : ∃ k', k = k' + 1 := ⟨k - 1, by omega⟩
    rw [hindsightref15_Count.l0, if_neg (by omega), List.drop_of_length_le (by omega)]
    simp [cntOf]
  | succ m ih =>
    intro i k z hi hk h0 hz
    obtain ⟨k, rfl⟩ : ∃ k', k = k' + 1 := ⟨k - 1, by omega⟩
    have hlt : i < log.length := by omega
    have hd : log[i]? = some log[i] := List.getElem?_eq_getElem hlt
    rw [hindsightref15_Count.l0, if_pos (by omega), if_pos (by omega), if_pos (by simp; omega), rd_toS hd, wrap_i i (by omega), List.drop_eq_getElem_cons hlt]
    generalize log[i] = d
    by_cases h1 : (toS d).f0 = x
    · have h1' : d.who = x := h1
      rw [if_pos h1, IntWalk.wrap64_in _ ⟨by omega, by omega⟩, ih _ _ _ (by omega) (by omega) (by omega) (by omega)]
      simp [cntOf, List.filter_cons, h1']; omega
    · have h1' : ¬ d.who = x := h1
      rw [if_neg h1, ih _ _ _ (by omega) (by omega) (by omega) (by omega)]
      simp [cntOf, List.filter_cons, h1']
theorem count_f (log : List Dn) (hl : log.length ≤ 1000) (x : Int) (k : Nat) (hk : 1000 < k) : hindsightref15_Count.f k (log.map toS) x = some (cntOf log x) := by
  unfold hindsightref15_Count.f
  rw [List.length_map]
  have := count_l0 x log hl log.length 0 k 0 (by omega) (by omega) (by omega) (by omega)
  simpa using this
theorem swaps_l0 (x : Int) (log : List Dn) (hl : log.length ≤ 1000) : ∀ (m i k : Nat) (z : Int), i + m = log.length → m < k → 0 ≤ z → z ≤ i → hindsightref15_Swaps.l0 k x z (log.map toS) (log.length : Int) (i : Int) = some (z + refSwaps (log.drop i) x) := by
  intro m
  induction m with
  | zero =>
    intro i k z hi hk h0 h1
    obtain ⟨k, rfl⟩ : ∃ k', k = k' + 1 := ⟨k - 1, by omega⟩
    rw [hindsightref15_Swaps.l0, if_neg (by omega), List.drop_of_length_le (by omega)]
    simp [refSwaps]
  | succ m ih =>
    intro i k z hi hk h0 hz
    obtain ⟨k, rfl⟩ : ∃ k', k = k' + 1 := ⟨k - 1, by omega⟩
    have hlt : i < log.length := by omega
    have hd : log[i]? = some log[i] := List.getElem?_eq_getElem hlt
    rw [hindsightref15_Swaps.l0, if_pos (by omega), if_pos (by omega), if_pos (by simp; omega), rd_toS hd, wrap_i i (by omega), List.drop_eq_getElem_cons hlt]
    generalize log[i] = d
    have hno : swp x d = false → hindsightref15_Swaps.l0 k x z (log.map toS) (log.length : Int) ((i + 1 : Nat) : Int) = some (z + refSwaps (d :: log.drop (i + 1)) x) := by
      intro hb
      rw [ih _ _ _ (by omega) (by omega) (by omega) (by omega)]
      simp [refSwaps, List.filter_cons, hb]
    by_cases h1 : (toS d).f1.f1 = x
    · have h1' : d.c = x := h1
      by_cases h2 : (toS d).f1.f0 = 3
      · have h2' : d.k = 3 := h2
        by_cases h3 : (toS d).f2 = true
        · have h3' : d.is = true := h3
          rw [if_pos h1, if_pos h2, if_pos h3, IntWalk.wrap64_in _ ⟨by omega, by omega⟩, ih _ _ _ (by omega) (by omega) (by omega) (by omega)]
          simp [refSwaps, List.filter_cons, swp, h1', h2', h3']; omega
        · have h3' : ¬ d.is = true := h3
          rw [if_pos h1, if_pos h2, if_neg h3]; exact hno (by simp [swp, h3'])
      · have h2' : ¬ d.k = 3 := h2
        rw [if_pos h1, if_neg h2]; exact hno (by simp [swp, h2'])
    · have h1' : ¬ d.c = x := h1
      rw [if_neg h1]; exact hno (by simp [swp, h1'])
theorem swaps_f (log : List Dn) (hl : log.length ≤ 1000) (x : Int) (k : Nat) (hk : 1000 < k) : hindsightref15_Swaps.f k (log.map toS) x = some (refSwaps log x) := by
  unfold hindsightref15_Swaps.f
  rw [List.length_map]
  have := swaps_l0 x log hl log.length 0 k 0 (by omega) (by omega) (by omega) (by omega)
  simpa using this
theorem do_f_out (log : List Dn) (n who k c : Int) (o nw : ByteArray) (hc : c < 0 ∨ n ≤ c) : hindsightref15_Do.f 2000 (log.map toS) n who k c o nw = some (log.map toS, ⟨#[]⟩, false, 6) := by
  unfold hindsightref15_Do.f
  by_cases h : c < 0
  · rw [if_pos h, hindsightref15_Do.j0, if_pos rfl]
  · rw [if_neg h, hindsightref15_Do.j0, if_pos (by simp; omega)]
theorem do_f_kind (log : List Dn) (n who k c : Int) (o nw : ByteArray) (h0 : 0 ≤ c) (h1 : c < n) (hk : k < 1 ∨ 3 < k) : hindsightref15_Do.f 2000 (log.map toS) n who k c o nw = some (log.map toS, ⟨#[]⟩, false, 5) := by
  unfold hindsightref15_Do.f
  rw [if_neg (by omega), hindsightref15_Do.j0, if_neg (by simp; omega)]
  by_cases h : k < 1
  · rw [if_pos h]
  · rw [if_neg h, if_pos (by omega)]
theorem do_f_ok (log : List Dn) (hl : log.length ≤ 1000) (n who k c : Int) (o nw : ByteArray) (h0 : 0 ≤ c) (h1 : c < n) (hk : k = 1 ∨ k = 2 ∨ k = 3) :
    hindsightref15_Do.f 2000 (log.map toS) n who k c o nw = some ((log ++ [(⟨who, k, c, o, nw, doIs k (refHolds log c) o⟩ : Dn)]).map toS, refHolds log c, doIs k (refHolds log c) o, 0) := by
  unfold hindsightref15_Do.f
  rw [if_neg (by omega), hindsightref15_Do.j0, if_neg (by simp; omega), if_neg (by omega), if_neg (by omega), holds_f log hl c _ (by omega), Option.bind_some]
  by_cases h : k < 3
  · rw [if_pos h]
    have : doIs k (refHolds log c) o = true := by unfold doIs; simp; omega
    rw [this]
    simp [toS]; omega
  · have h3 : k = 3 := by omega
    subst h3
    rw [if_neg h]
    have : doIs 3 (refHolds log c) o = ((refHolds log c).toList == o.toList) := by
      unfold doIs
      by_cases he : refHolds log c = o
      · simp [he]
      · rw [list_ne he]; simp [he]
    rw [this]
    simp [toS]; omega
/-- What the Memory and the document's list have to do with each other. -/
structure Good (n : Nat) (cs : List ByteArray) (log : List Dn) : Prop where
  len : cs.length = n
  at_ : ∀ j, j < n → cs[j]? = some (refHolds log j)
  out : ∀ c : Int, (c < 0 ∨ (n : Int) ≤ c) → refHolds log c = ⟨#[]⟩
  sw : ∀ c : Int, swFold c log = (refSwaps log c, refHolds log c)
theorem Good.start (n : Nat) : Good n (List.replicate n ⟨#[]⟩) [] :=
  ⟨List.length_replicate, fun j hj => by rw [List.getElem?_replicate, if_pos hj]; rfl, fun _ _ => rfl, fun _ => rfl⟩
theorem holds_snoc (log : List Dn) (d : Dn) (c : Int) : refHolds (log ++ [d]) c = hdStep c (refHolds log c) d := by simp [refHolds]
theorem swaps_snoc (log : List Dn) (d : Dn) (c : Int) : refSwaps (log ++ [d]) c = if swp c d = true then refSwaps log c + 1 else refSwaps log c := by
  unfold refSwaps
  by_cases h : swp c d = true <;> simp [List.filter_append, List.filter_cons, h]
theorem Good.step {n : Nat} {cs : List ByteArray} {log : List Dn} (h : Good n cs log) (who k : Int) (hk : k = 1 ∨ k = 2 ∨ k = 3) (j : Nat) (hj : j < n) (o nw : ByteArray) :
    Good n (doCs cs j k (refHolds log j) o nw) (log ++ [⟨who, k, j, o, nw, doIs k (refHolds log j) o⟩]) := by
  have hn := h.len
  have hd : ∀ c : Int, hdStep c (refHolds log c) ⟨who, k, j, o, nw, doIs k (refHolds log j) o⟩ = if c = j ∧ k ≠ 1 ∧ doIs k (refHolds log j) o = true then nw else refHolds log c := by
    intro c
    simp only [hdStep]
    by_cases hc : c = j
    · subst hc
      by_cases h1 : k ≠ 1 ∧ doIs k (refHolds log j) o = true
      · rw [if_pos ⟨rfl, by omega, h1.2⟩, if_pos ⟨rfl, h1⟩]
      · rw [if_neg (fun e => h1 ⟨by omega, e.2.2⟩), if_neg (fun e => h1 e.2)]
    · rw [if_neg (fun e => hc e.1.symm), if_neg (fun e => hc e.1)]
  refine ⟨by rw [doCs_length]; exact hn, ?_, ?_, ?_⟩
  · intro i hi
    rw [holds_snoc, hd, doCs]
    by_cases h1 : k ≠ 1 ∧ doIs k (refHolds log j) o = true
    · rw [if_pos h1]
      by_cases hij : i = j
      · subst hij
        rw [if_pos ⟨rfl, h1⟩, List.getElem?_set_self (by omega)]
      · rw [if_neg (fun e => hij (by omega))]
        rw [List.getElem?_set_ne (fun e => hij e.symm)]
        exact h.at_ i hi
    · rw [if_neg h1, if_neg (fun e => h1 e.2)]
      exact h.at_ i hi
  · intro c hc
    rw [holds_snoc, hd, if_neg (fun e => by omega)]
    exact h.out c hc
  · intro c
    rw [swFold_app, h.sw c, holds_snoc, hd, swaps_snoc]
    by_cases hc : c = j
    · subst hc
      rcases hk with rfl | rfl | rfl
      · simp [swStep, swp]
      · simp [swStep, swp, doIs]
      · by_cases ho : refHolds log j = o
        · simp [swStep, swp, doIs, ho]
        · simp [swStep, swp, doIs, ho]
    · have hc' : ¬ (j : Int) = c := fun e => hc e.symm
      simp [swStep, swp, hc, hc']
end Go.Proofs.Ytpcfgigmchndjaa
