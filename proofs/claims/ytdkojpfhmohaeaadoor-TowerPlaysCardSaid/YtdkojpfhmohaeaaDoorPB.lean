/- A tower beside the document's list: what each call does to both. -/
import Derived.Test.YtdkojpfhmohaeaaDoorTRefs2
import Derived.Test.YtdkojpfhmohaeaaDoorTSVers
import Derived.Test.YtdkojpfhmohaeaaDoorArgs
set_option linter.unusedVariables false
namespace Go.Proofs.YtdkojpfhmohaeaaDoor
open PTowerPlays Go.RowKit Go.Proofs.YtdkojpfhmohaeaaDoorW.PrintWords Go.Proofs.YtdkojpfhmohaeaaDoorW.PrintLast Go.Proofs.YtdkojpfhmohaeaaDoorW.PrintMore
open TS Go.Proofs.TowerPlain
/-! ### Whole numbers in a slice -/
def NumV (w : World) (v : Value) (D : List Int) : Prop := ∃ A c, v = .slice A D.length c ∧ D.length ≤ c ∧ Kd.C (Kd.int .i64) w A D.length D
theorem NumV.nope {w w' : World} {v : Value} {D : List Int} (h : NumV w v D) (ht : Turn Nope w w') : NumV w' v D := by
  obtain ⟨A, c, e, hc, hC⟩ := h
  exact ⟨A, c, e, hc, Kd.C_below hC ht.nopeBelow⟩
theorem NumV.ofR {w : World} {base : Nat} {P : Nat → Prop} {v : Value} {D : List Int} (h : Kd.R (Kd.int .i64) 3 w base P v D) : NumV w v D := by
  obtain ⟨A, c, e, hc, hC⟩ := Kd.R_reads h
  exact ⟨A, c, e, hc, hC⟩
theorem NumV.nil (w : World) : NumV w (.slice none 0 0) [] := NumV.ofR (base := 0) (P := fun _ => True) (Kd.R_nil _ _ _ _ _)
theorem NumV.ofRow {w : World} {base : Nat} {D : List Int} {v : Value} (h : w.ownsRow base 3 1 v D.length (atsV D)) : NumV w v D := by
  have h' := h
  rcases h.2 with ⟨rfl, h0⟩ | ⟨g, cap, cur, rfl, hb, hh, h1, h2, h3, h4⟩
  · have : D = [] := List.length_eq_zero_iff.1 h0
    subst this
    exact NumV.nil w
  · refine ⟨_, cap, rfl, h1, rfl, Nat.le_trans h1 h2, fun _ => ⟨_, rfl, fun j x hx => ?_⟩⟩
    refine ⟨[.int .i64 x], rfl, rfl, fun i u hu => ?_⟩
    match i, hu with
    | 0, hu =>
      injection hu with hu
      subst hu
      have := own_elem h' j (u := .int .i64 x) (by simp [atsV, hx])
      rw [show (⟨g, 0, none⟩ : Addr).add (j * (Kd.int .i64).sz + 0) = ⟨g, j, none⟩ by show (⟨g, 0, none⟩ : Addr).add (j * 1 + 0) = _; unfold Addr.add; split <;> simp_all]
      exact this
    | i + 1, hu => cases hu
theorem sameN_l0 (l : List Int) (hl : l.length ≤ 1000) : ∀ (d i k : Nat), i + d = l.length → d < k → hindsightlaw13_same.l0 k l l (l.length : Int) (i : Int) = some true := by
  intro d
  induction d with
  | zero =>
    intro i k hi hk
    obtain ⟨k, rfl⟩ : ∃ m, k = m + 1 := ⟨k - 1, by omega⟩
    simp only [hindsightlaw13_same.l0]
    rw [if_neg (by omega)]
  | succ d ih =>
    intro i k hi hk
    obtain ⟨k, rfl⟩ : ∃ m, k = m + 1 := ⟨k - 1, by omega⟩
    simp only [hindsightlaw13_same.l0]
    rw [if_pos (by omega), if_pos (by omega), if_pos (by omega), if_pos (by omega), if_pos trivial, wrap_up (n := l.length) (by omega) (by omega), ih (i + 1) k (by omega) (by omega)]
theorem sameN {w : World} {v1 v2 : Value} {D : List Int} (h : NumV w v1 D) (h2 : NumV w v2 D) (hl : D.length ≤ 1000) :
    Calls Tryd.prog 19 #[v1, v2] w fun e w' => e = .returned (.bool true) ∧ Turn Nope w w' := by
  obtain ⟨A, c, rfl, hc, hC⟩ := h
  obtain ⟨A2, c2, rfl, hc2, hC2⟩ := h2
  refine (hindsightlaw13_same.calls 2000 A c D A2 c2 D true w hC hc hC2 hc2 (by unfold hindsightlaw13_same.f; rw [if_pos rfl]; exact sameN_l0 D hl D.length 0 2000 (by omega) (by omega))).mono ?_
  rintro e w' ⟨he, hd⟩
  exact ⟨he, Turn.ofBelow hd.below Nope⟩
/-! ### The document's list in memory -/
def RowV (w : World) (v : Value) (l : List Ver) : Prop := ∃ A c, v = .slice A l.length c ∧ l.length ≤ c ∧ c ≤ maxLen ∧
  (0 < l.length → ∃ g o cells, A = some ⟨g, o, none⟩ ∧ w.heap[g]? = some (.cells cells 48 (0, 0)) ∧ ∀ j x, l[j]? = some x → cells[o + j * 2]? = some (.int .i64 x.1) ∧ cells[o + j * 2 + 1]? = some (.string x.2))
theorem RowV.kp {w w' : World} {v : Value} {l : List Ver} (h : RowV w v l) (hk : Kp w w') : RowV w' v l := by
  obtain ⟨A, c, e, h1, h2, h3⟩ := h
  refine ⟨A, c, e, h1, h2, fun hp => ?_⟩
  obtain ⟨g, o, cells, e1, e2, e3⟩ := h3 hp
  exact ⟨g, o, cells, e1, hk g cells 48 e2 (by decide) (by decide) (by decide), e3⟩
theorem RowV.reads {w : World} {v : Value} {l : List Ver} (h : RowV w v l) : ∃ A c, v = .slice A l.length c ∧ l.length ≤ c ∧ Kd.C k48 w A (l.map toS).length (l.map toS) := by
  obtain ⟨A, c, e, h1, h2, h3⟩ := h
  refine ⟨A, c, e, h1, rfl, ?_, fun hp => ?_⟩
  · rw [List.length_map]; exact Nat.le_trans h1 h2
  · obtain ⟨g, o, cells, rfl, e2, e3⟩ := h3 (by simpa using hp)
    refine ⟨_, rfl, fun j p hj => ?_⟩
    rw [List.getElem?_map] at hj
    cases hx : l[j]? with
    | none => rw [hx] at hj; cases hj
    | some x =>
      rw [hx] at hj
      injection hj with hj
      subst hj
      obtain ⟨c0, c1⟩ := e3 j x hx
      refine ⟨_, rfl, k48_mk w (toS x), fun i u hu => ?_⟩
      have key : ∀ m, (⟨g, o, none⟩ : Addr).add m = ⟨g, o + m, none⟩ := fun m => by unfold Addr.add; split <;> simp_all
      rw [key, blk_cell e2]
      match i, hu with
      | 0, hu => injection hu with hu; subst hu; exact c0
      | 1, hu => injection hu with hu; subst hu; exact c1
      | i + 2, hu => cases hu
theorem RowV.ofR {w : World} {base : Nat} {P : Nat → Prop} {v : Value} {l : List Ver} (h : Kd.R k48 48 w base P v (l.map toS)) : RowV w v l := by
  obtain ⟨_, inner, ho, hr1, hr2⟩ := h
  rw [List.length_map] at ho
  rcases ho.2 with ⟨rfl, h0⟩ | ⟨g, cap, cur, rfl, hb, hh, h1, h2, h3, h4⟩
  · refine ⟨none, 0, by rw [h0], by omega, Nat.zero_le _, fun hp => by omega⟩
  · refine ⟨_, cap, rfl, h1, h2, fun _ => ⟨g, 0, cur, rfl, hh, fun j x hj => ?_⟩⟩
    have hlt : j < l.length := (List.getElem?_eq_some_iff.1 hj).1
    have hm := k48_openM (hr2 j (toS x) (by rw [List.getElem?_map, hj]; rfl))
    have key : ∀ i, i < 2 → cur[0 + j * 2 + i]? = ([Value.int .i64 (toS x).f0, .string (toS x).f1] : List Value)[i]? := fun i hi => by
      have h5 : inner[j * 2 + i]? = cur[0 + j * 2 + i]? := by
        rw [← h4, List.getElem?_take_of_lt (by show j * 2 + i < l.length * 2; omega), Array.getElem?_toList, Nat.zero_add]
      rw [← h5, ← hm, List.getElem?_take_of_lt (by show i < 2; exact hi), List.getElem?_drop]
      rfl
    exact ⟨key 0 (by omega), key 1 (by omega)⟩
/-! ### The tower, the list, an act -/
structure PB (w0 : World) (q ab : Nat) (k av up : Int) (s : ByteArray) (l m : List Ver) (v : Value) (w : World) : Prop where
  one : One w0 w q l
  row : RowV w v m
  act : w.heap[ab]? = some (.cells #[.int .i64 k, .int .i64 av, .int .i64 up, .string s] 42 (0, 0))
variable {w0 w w' : World} {q ab : Nat} {k av up : Int} {s : ByteArray} {l m : List Ver} {v : Value}
theorem PB.kp {l' : List Ver} (h : PB w0 q ab k av up s l m v w) (h1 : One w0 w' q l') (hk : Kp w w') : PB w0 q ab k av up s l' m v w' := ⟨h1, h.row.kp hk, hk _ _ _ h.act (by decide) (by decide) (by decide)⟩
theorem PB.nope (h : PB w0 q ab k av up s l m v w) (ht : Turn Nope w w') : PB w0 q ab k av up s l m v w' := h.kp (h.one.nope ht) (Kp.ofNope ht)
theorem PB.cells (h : PB w0 q ab k av up s l m v w) : w.cell? ⟨ab, 0, none⟩ = some (.int .i64 k) ∧ w.cell? ⟨ab, 1, none⟩ = some (.int .i64 av) ∧ w.cell? ⟨ab, 2, none⟩ = some (.int .i64 up) ∧ w.cell? ⟨ab, 3, none⟩ = some (.string s) :=
  ⟨by rw [blk_cell h.act]; rfl, by rw [blk_cell h.act]; rfl, by rw [blk_cell h.act]; rfl, by rw [blk_cell h.act]; rfl⟩
theorem pb_put (h : PB w0 q ab k av up s l m v w) (hT : TabAt w0) (a : Int) (ha : a ≤ 9223372036854775807) (hn : l.length ≤ 1000000) (u : ByteArray) :
    Calls Tryd.prog 23 #[.pointer (some ⟨q, 0, none⟩), .int .i64 a, .string u] w fun e w' => e = .returned (.bool (hasT a l)) ∧ PB w0 q ab k av up s (insT (a, u) l) m v w' := by
  refine (one_put h.one hT a ha hn u).mono ?_
  rintro e w' ⟨he, h1, hk⟩
  exact ⟨he, h.kp h1 hk⟩
theorem pb_cut (h : PB w0 q ab k av up s l m v w) (hn : l.length ≤ 1000000) (a b : Int) :
    Calls Tryd.prog 25 #[.pointer (some ⟨q, 0, none⟩), .int .i64 a, .int .i64 b] w fun e w' => e = .returned (.int .i64 ((l.length : Int) - (cutT a b l).length)) ∧ PB w0 q ab k av up s (cutT a b l) m v w' := by
  refine (one_cut h.one hn a b).mono ?_
  rintro e w' ⟨he, h1, hk⟩
  exact ⟨he, h.kp h1 hk⟩
theorem pb_floor (h : PB w0 q ab k av up s l m v w) (a : Int) :
    Calls Tryd.prog 27 #[.pointer (some ⟨q, 0, none⟩), .int .i64 a] w fun e w' => e = .returned (floorR (floorT a l)) ∧ PB w0 q ab k av up s l m v w' := by
  refine (one_floor h.one a).mono ?_
  rintro e w' ⟨he, h1, ht⟩
  exact ⟨he, h.nope ht⟩
theorem PB.ref (h : PB w0 q ab k av up s l m v w) {v' : Value} {m' : List Ver} (hb : Below w.heap.size w w') (hr : RowV w' v' m') : PB w0 q ab k av up s l m' v' w' := by
  have h1 := h.nope (Turn.ofBelow hb Nope)
  exact ⟨h1.one, hr, h1.act⟩
theorem pb_rput (h : PB w0 q ab k av up s l m v w) (hs : SortedT m) (hl : m.length ≤ 1000) (a : Int) (u : ByteArray) :
    Calls Tryd.prog 24 #[v, .agg #[.int .i64 a, .string u]] w fun e w' => ∃ v', e = .returned (.tuple #[v', .bool (hasT a m)]) ∧ PB w0 q ab k av up s l (insT (a, u) m) v' w' := by
  obtain ⟨A, c, rfl, hc, hC⟩ := h.row.reads
  have := hindsightref13_Put.calls 4000 A c (m.map toS) a u _ _ w hC (by rw [List.length_map]; exact hc) (put_f (a, u) m hs hl)
  rw [List.length_map] at this
  refine this.mono ?_
  rintro e w' ⟨v', he, hR, hB⟩
  exact ⟨v', he, h.ref hB (RowV.ofR hR)⟩
theorem pb_rcut (h : PB w0 q ab k av up s l m v w) (hl : m.length ≤ 1000) (a b : Int) :
    Calls Tryd.prog 26 #[v, .int .i64 a, .int .i64 b] w fun e w' => ∃ v', e = .returned v' ∧ RowV w' v' (cutT a b m) ∧ PB w0 q ab k av up s l m v w' := by
  obtain ⟨A, c, e0, hc, hC⟩ := h.row.reads
  subst e0
  have := hindsightref13_Cut.calls 4000 A c (m.map toS) a b _ w hC (by rw [List.length_map]; exact hc) (cut_f a b m hl)
  rw [List.length_map] at this
  refine this.mono ?_
  rintro e w' ⟨v', he, hR, hB⟩
  exact ⟨v', he, RowV.ofR hR, h.nope (Turn.ofBelow hB Nope)⟩
theorem pb_rfloor (h : PB w0 q ab k av up s l m v w) (hl : m.length ≤ 1000) (a r1 : Int) (r2 : ByteArray) (r3 : Bool) (hf : floor3 (floorT a m) 0 (⟨#[]⟩ : ByteArray) false = (r1, r2, r3)) :
    Calls Tryd.prog 28 #[v, .int .i64 a] w fun e w' => e = .returned (.tuple #[.agg #[.int .i64 r1, .string r2], .bool r3]) ∧ PB w0 q ab k av up s l m v w' := by
  obtain ⟨A, c, e0, hc, hC⟩ := h.row.reads
  subst e0
  have := hindsightref13_Floor.calls 4000 A c (m.map toS) a r1 r2 r3 w hC (by rw [List.length_map]; exact hc) (by rw [floor_f a m hl, hf])
  rw [List.length_map] at this
  refine this.mono ?_
  rintro e w' ⟨he, hB⟩
  exact ⟨he, h.nope (Turn.ofBelow hB Nope)⟩
theorem pb_vers (h : PB w0 q ab k av up s l m v w) (hn : l.length ≤ 1000000) :
    Calls Tryd.prog 30 #[.pointer (some ⟨q, 0, none⟩)] w fun e w' => ∃ v1, e = .returned v1 ∧ NumV w' v1 (l.map (·.1)) ∧ PB w0 q ab k av up s l m v w' := by
  obtain ⟨F, h1, h2, h3⟩ := h.one
  refine (tvers h1 hn).mono ?_
  rintro e w' ⟨v1, he, hr, ht⟩
  exact ⟨v1, he, NumV.ofRow hr, h.nope ht⟩
theorem pb_rvers (h : PB w0 q ab k av up s l m v w) (hl : m.length ≤ 1000) :
    Calls Tryd.prog 31 #[v] w fun e w' => ∃ v2, e = .returned v2 ∧ NumV w' v2 (m.map (·.1)) ∧ Turn Nope w w' ∧ PB w0 q ab k av up s l m v w' := by
  obtain ⟨A, c, e0, hc, hC⟩ := h.row.reads
  subst e0
  have := hindsightlaw13_versions.calls 4000 A c (m.map toS) _ w hC (by rw [List.length_map]; exact hc) (vers_f m hl)
  rw [List.length_map] at this
  refine this.mono ?_
  rintro e w' ⟨v2, he, hR, hB⟩
  exact ⟨v2, he, NumV.ofR hR, Turn.ofBelow hB Nope, h.nope (Turn.ofBelow hB Nope)⟩
theorem pb_rsteps (h : PB w0 q ab k av up s l m v w) (hs : SortedT m) (hm : Small m) (hl : m.length ≤ 100) (a : Int) :
    Calls Tryd.prog 33 #[v, .int .i64 a] w fun e w' => e = .returned (.int .i64 ((stepsT a m : Nat) : Int)) ∧ PB w0 q ab k av up s l m v w' := by
  obtain ⟨A, c, e0, hc, hC⟩ := h.row.reads
  subst e0
  have := hindsightref13_Steps.calls 4000 A c (m.map toS) a _ w hC (by rw [List.length_map]; exact hc) (steps_f m a hs hm hl)
  rw [List.length_map] at this
  refine this.mono ?_
  rintro e w' ⟨he, hB⟩
  exact ⟨he, h.nope (Turn.ofBelow hB Nope)⟩
/-- The list's levels, and the tower's. -/
theorem rlevel_any (h : RowV w v m) (hm : Small m) (hl : m.length ≤ 1000) (z : Int) :
    Calls Tryd.prog 34 #[v, .int .i64 z] w fun e w' => ∃ v2, e = .returned v2 ∧ NumV w' v2 (levelZ z m) ∧ Turn Nope w w' := by
  obtain ⟨A, c, e0, hc, hC⟩ := h.reads
  subst e0
  have := hindsightref13_Level.calls 4000 A c (m.map toS) z _ w hC (by rw [List.length_map]; exact hc) (level_f z m hm hl 4000 (by omega))
  rw [List.length_map] at this
  refine this.mono ?_
  rintro e w' ⟨v2, he, hR, hB⟩
  exact ⟨v2, he, NumV.ofR hR, Turn.ofBelow hB Nope⟩
theorem level_out (po : Option Addr) (z : Int) (hz : z < 0 ∨ 10 ≤ z) (w : World) : Calls Tryd.prog 35 #[.pointer po, .int .i64 z] w fun e w' => e = .returned (.slice none 0 0) ∧ w = w' := by
  by_cases h1 : z < 0
  · have q1 : decide (z < 0) = true := by simpa using h1
    clear hz h1
    go_enter Tryd.func35, Tryd.ntmps35
    go_wp2_with fail
    go_ret
    exact ⟨rfl, rfl⟩
  · have q1 : decide (z < 0) = false := by simpa using h1
    have q2 : decide (z ≥ 10) = true := by simp; omega
    have q2' : decide (10 ≤ z) = true := by simp; omega
    clear hz h1
    go_enter Tryd.func35, Tryd.ntmps35
    go_wp2_with fail
    go_ret
    exact ⟨rfl, rfl⟩
theorem tlevel_any (h : One w0 w q l) (hl : l.length ≤ 1000000) (z : Int) (D : List Int) (hD : D = if z < 0 ∨ 10 ≤ z then [] else levelZ z l) :
    Calls Tryd.prog 35 #[.pointer (some ⟨q, 0, none⟩), .int .i64 z] w fun e w' => ∃ v1, e = .returned v1 ∧ NumV w' v1 D ∧ Turn Nope w w' := by
  by_cases hz : z < 0 ∨ 10 ≤ z
  · rw [if_pos hz] at hD
    subst hD
    refine (level_out _ z hz w).mono ?_
    rintro e w' ⟨rfl, rfl⟩
    exact ⟨_, rfl, NumV.nil _, Turn.refl _ _⟩
  · rw [if_neg hz] at hD
    obtain ⟨n, rfl⟩ : ∃ n : Nat, z = n := ⟨z.toNat, by omega⟩
    rw [levelZ_nat] at hD
    subst hD
    obtain ⟨F, h1, h2, h3⟩ := h
    refine (tlevel h1 hl n (by omega)).mono ?_
    rintro e w' ⟨v1, he, hr, ht⟩
    exact ⟨v1, he, NumV.ofRow hr, ht⟩
/-- What Floor answers, twice. -/
theorem floor_two (o : Option Ver) : ∃ r1 r2 r3, floorR o = .tuple #[.int .i64 r1, .string r2, .bool r3] ∧ floor3 o 0 (⟨#[]⟩ : ByteArray) false = (r1, r2, r3) := by
  cases o with
  | none => exact ⟨_, _, _, rfl, rfl⟩
  | some r => exact ⟨_, _, _, rfl, rfl⟩
theorem insT_small {x : Ver} {t : List Ver} (hx : x.1 ≤ 9223372036854775807) (hs : SortedT t) (h : Small t) : Small (insT x t) := fun y hy => by
  rcases (insT_mem hs).1 hy with rfl | ⟨h1, _⟩
  · exact hx
  · exact h y h1
theorem cutT_small {a b : Int} {t : List Ver} (h : Small t) : Small (cutT a b t) := fun y hy => h y (List.mem_filter.1 hy).1
theorem cutT_sorted {a b : Int} {t : List Ver} (h : SortedT t) : SortedT (cutT a b t) := List.Pairwise.sublist List.filter_sublist h
theorem cutT_le (a b : Int) (t : List Ver) : (cutT a b t).length ≤ t.length := List.length_filter_le _ _
theorem cutS_f (s : ByteArray) : ∃ r, hindsightlaw01_Cut.f s 10 = some r := by
  unfold hindsightlaw01_Cut.f
  by_cases h : (s.size : Int) > 10
  · rw [if_pos h, if_pos (by omega), if_pos (by omega)]; exact ⟨_, rfl⟩
  · rw [if_neg h]; exact ⟨_, rfl⟩
end Go.Proofs.YtdkojpfhmohaeaaDoor
