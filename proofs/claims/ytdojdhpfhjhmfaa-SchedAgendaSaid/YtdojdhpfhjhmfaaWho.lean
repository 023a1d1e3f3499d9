/- Who has something to do: the walk of Agenda's Who, with the library's sort. -/
import Derived.Test.YtdojdhpfhjhmfaaAgAdd
import Derived.Test.YtdojdhpfhjhmfaaSetW
import Derived.Test.YtdojdhpfhjhmfaaSv
set_option maxRecDepth 16000
set_option linter.unusedVariables false
set_option linter.unusedSimpArgs false
namespace Go.Proofs.Ytdojdhpfhjhmfaa
open Go.RowKit Go.Maps Go.Sort
variable {w0 w w' : World} {a mb n : Nat} {D : DataW Value} {V : Int → Value} {A : Int → List ByteArray}
theorem putCells_take (M : List Int) (cur : Array Value) (hc : M.length ≤ cur.size) : (putCells (Value.int .i64) 0 M.toArray cur).toList.take M.length = nums M := by
  apply List.ext_getElem?
  intro j
  by_cases hj : j < M.length
  · rw [List.getElem?_take_of_lt hj, Array.getElem?_toList]
    have h1 : j < cur.size := by omega
    simp [putCells, nums, hj, h1, Array.getElem?_mapIdx]
  · rw [List.getElem?_eq_none (by rw [List.length_take]; omega), List.getElem?_eq_none (by simp [nums]; omega)]
theorem sort_any {base : Nat} {v : Value} {L : List Int} (h : w.ownsRow base 3 1 v L.length (nums L)) (hl : L.length ≤ 1000000) :
    Calls Try.prog 35 #[v] w fun e w' => e = .returned (.tuple #[]) ∧ w'.ownsRow base 3 1 v L.length (nums (L.mergeSort fun x y => decide (x ≤ y))) ∧ Turn (OfRow v) w w' := by
  obtain ⟨M, hM⟩ : ∃ M, (L.mergeSort fun x y => decide (x ≤ y)) = M := ⟨_, rfl⟩
  have hMl : M.length = L.length := by rw [← hM, List.length_mergeSort]
  rw [hM]
  rcases h.2 with ⟨rfl, h0⟩ | ⟨g, cap, cur, rfl, hb, hg, hnc, hcm, hcs, htk⟩
  · have h0 : L.length = 0 := h0
    rw [h0]
    refine (Try.slices_Sort_int_none none 0 w).mono ?_
    rintro e w' ⟨rfl, rfl⟩
    refine ⟨rfl, ?_, Turn.refl _ _⟩
    have : M = [] := List.length_eq_zero_iff.1 (by omega)
    subst this
    exact ⟨rfl, .inl ⟨rfl, rfl⟩⟩
  · refine (Try.slices_Sort_int g 0 cap L w (fun j hj => ?_) (blk_lt hg) (by omega)).mono ?_
    · have hj : j < L.length := by simpa using hj
      rw [Nat.zero_add]
      refine ⟨?_, row_frozen h j⟩
      rw [own_elem h j (u := .int .i64 L[j]) (by simp [nums, List.getElem?_eq_getElem hj])]
      simp [hj]
    · rintro e w' ⟨rfl, m, os, rfl⟩
      rw [hM]
      have hb2 : (grow (putRow (Value.int .i64) (Sort.ahead w m) g 0 M.toArray) os).heap[g]? = some (.cells (putCells (Value.int .i64) 0 M.toArray cur) 3 (0, 0)) := by
        have hlt := blk_lt hg
        unfold grow
        show ((putRow (Value.int .i64) (Sort.ahead w m) g 0 M.toArray).heap ++ os)[g]? = _
        rw [Array.getElem?_append_left (by rw [size_putRow]; exact hlt)]
        unfold putRow mapBlock
        show (w.heap.modify g _)[g]? = _
        rw [Array.getElem?_modify, if_pos rfl, hg]
        rfl
      refine ⟨rfl, ⟨by simp [nums, hMl], .inr ⟨g, cap, _, rfl, hb, hb2, hnc, hcm, by simp [putCells, hcs], ?_⟩⟩, ?_⟩
      · have := putCells_take M cur (by omega)
        rw [hMl] at this
        rw [Nat.mul_one]
        exact this
      · refine ⟨rfl, rfl, rfl, ?_, fun i hi hn => ?_⟩
        · unfold grow
          show w.heap.size ≤ ((putRow (Value.int .i64) (Sort.ahead w m) g 0 M.toArray).heap ++ os).size
          rw [Array.size_append, size_putRow]
          exact Nat.le_add_right _ _
        · unfold grow
          show ((putRow (Value.int .i64) (Sort.ahead w m) g 0 M.toArray).heap ++ os)[i]? = _
          rw [Array.getElem?_append_left (by rw [size_putRow]; exact hi)]
          unfold putRow mapBlock
          show (w.heap.modify g _)[i]? = _
          rw [Array.getElem?_modify, if_neg (fun e => hn (by show Value.ownBlock _ = some i; rw [← e]; rfl))]
theorem sorted_lt {L : List Int} (h : L.Nodup) : (L.mergeSort fun x y => decide (x ≤ y)).Pairwise (fun x y => x < y) := by
  have h1 : (L.mergeSort fun x y => decide (x ≤ y)).Pairwise (fun x y => decide (x ≤ y) = true) := List.pairwise_mergeSort (fun a b c h1 h2 => by simp at *; omega) (fun a b => by simp; omega) L
  have h2 : (L.mergeSort fun x y => decide (x ≤ y)).Nodup := (List.mergeSort_perm L _).nodup_iff.2 h
  refine (h1.and h2).imp fun {a b} hab => ?_
  have := hab.1
  have h3 : a ≠ b := hab.2
  simp at this
  omega
/-- Where the map has no key, nothing is to do. -/
theorem Ag.has (h : Ag w0 w a mb n D V A) {x : Int} (hx : (Lit.int .i64 x).wf = true) (hA : A x ≠ []) : Maps.has D (.int .i64 x) = true := by
  cases hh : Maps.has D (.int .i64 x) with
  | true => rfl
  | false =>
    exfalso
    have h1 := h.map.2 x hx
    rw [atKey_of_not_has hh] at h1
    injection h1 with h1
    obtain ⟨Ad, c, hv, _⟩ := h.rows x hx
    rw [← h1] at hv
    injection hv with _ hv _
    exact hA (List.length_eq_zero_iff.1 hv.symm)
/-- In the middle of the range: who was met. -/
structure WhoW (w0 w wr : World) (a mb n rb : Nat) (D : DataW Value) (V : Int → Value) (A : Int → List ByteArray) (v : Value) (L : List Int) (left : Lit → Bool) (k : Nat) : Prop where
  rg : wr.ranges Try.prog 3 rawElem mb rb n D left k
  row : wr.ownsRow (rb + 1) 3 1 v L.length (nums L)
  tn : Turn Nope w wr
  nd : L.Nodup
  out : ∀ x ∈ L, (Lit.int .i64 x).wf = true ∧ A x ≠ [] ∧ left (.int .i64 x) = false
  all : ∀ x, (Lit.int .i64 x).wf = true → A x ≠ [] → x ∈ L ∨ left (.int .i64 x) = true
  len : L.length + k ≤ n
  sz : rb + 1 ≤ wr.heap.size
  wb : w.heap.size ≤ rb
theorem key_ne {x y : Int} (h : x ≠ y) : (Lit.int .i64 x).sameKey (.int .i64 y) = false := sameKey_ne (fun e => h (by injection e))
theorem WhoW.skip {wr w7 : World} {rb k k' : Nat} {v : Value} {L : List Int} {left : Lit → Bool} {x : Int} (h : WhoW w0 w wr a mb n rb D V A v L left k) (hr : w7.ranges Try.prog 3 rawElem mb rb n D (fun z => left z && !z.sameKey (.int .i64 x)) k') (hk : k' < k) (hg : wr.grownBy w7 (some rb)) (hA : A x = []) :
    WhoW w0 w w7 a mb n rb D V A v L (fun z => left z && !z.sameKey (.int .i64 x)) k' := by
  have ht : Turn (At rb) wr w7 := (Turn.refl _ _).grown hg fun k hk => .inl (by injection hk with hk; exact hk.symm)
  refine ⟨hr, own_turn h.row ht (fun k hk e => by have h1 := own_base h.row k hk; have e : k = rb := e; omega), h.tn.grown hg fun k hk => .inr (by injection hk with hk; subst hk; exact h.wb), h.nd, fun y hy => ?_, fun y hy hAy => ?_, by have := h.len; omega, Nat.le_trans h.sz ht.size, h.wb⟩
  · have h1 := h.out y hy
    exact ⟨h1.1, h1.2.1, by rw [h1.2.2]; rfl⟩
  · rcases h.all y hy hAy with h1 | h1
    · exact .inl h1
    · refine .inr ?_
      have : y ≠ x := fun e => hAy (by rw [e]; exact hA)
      show (left _ && !_) = true
      rw [h1, key_ne this]; rfl
theorem WhoW.met {wr w7 : World} {rb k k' : Nat} {v : Value} {L : List Int} {left : Lit → Bool} {x : Int} (h : WhoW w0 w wr a mb n rb D V A v L left k) (hr : w7.ranges Try.prog 3 rawElem mb rb n D (fun z => left z && !z.sameKey (.int .i64 x)) k') (hk : k' < k) (hg : wr.grownBy w7 (some rb)) :
    w7.ownsRow (rb + 1) 3 1 v L.length (nums L) ∧ Turn Nope w w7 ∧ rb + 1 ≤ w7.heap.size := by
  have ht : Turn (At rb) wr w7 := (Turn.refl _ _).grown hg fun k hk => .inl (by injection hk with hk; exact hk.symm)
  exact ⟨own_turn h.row ht (fun k hk e => by have h1 := own_base h.row k hk; have e : k = rb := e; omega), h.tn.grown hg fun k hk => .inr (by injection hk with hk; subst hk; exact h.wb), Nat.le_trans h.sz ht.size⟩
/-- One is met: it is appended. -/
theorem WhoW.put {wr w7 w9 : World} {rb k k' : Nat} {v v' : Value} {L : List Int} {left : Lit → Bool} {x : Int} (h : WhoW w0 w wr a mb n rb D V A v L left k) (hr : w7.ranges Try.prog 3 rawElem mb rb n D (fun z => left z && !z.sameKey (.int .i64 x)) k') (hk : k' < k) (hg : wr.grownBy w7 (some rb)) (hl : left (.int .i64 x) = true) (hx : (Lit.int .i64 x).wf = true) (hA : A x ≠ [])
    (hown : w9.ownsRow (rb + 1) 3 1 v' (L.length + 1) (nums L ++ [.int .i64 x])) (hgr : (w7.alloc (.cells #[.int .i64 x] 3)).grownBy w9 v.ownBlock) (hmb : mb < w.heap.size) :
    WhoW w0 w w9 a mb n rb D V A v' (L ++ [x]) (fun z => left z && !z.sameKey (.int .i64 x)) k' := by
  have h7 := h.met hr hk hg
  have hv : ∀ k, v.ownBlock = some k → rb + 1 ≤ k := own_base h.row
  have hlt : rb < w7.heap.size := by have := h7.2.2; omega
  have hr8 := (hr.alloc (.cells #[.int .i64 x] 3)).kept hgr (fun e => by have := hv mb e.symm; have := h.wb; omega) (fun e => by have := hv rb e.symm; omega)
  refine ⟨hr8, ?_, (h7.2.1.alloc _).grown hgr fun k hk => .inr (by have := hv k hk; have := h.wb; omega), ?_, fun y hy => ?_, fun y hy hAy => ?_, ?_, Nat.le_trans h7.2.2 (Nat.le_trans (by simp) hgr.size), h.wb⟩
  · rw [List.length_append]
    simpa [nums] using hown
  · rw [List.nodup_append]
    refine ⟨h.nd, by simp, fun y hy z hz e => ?_⟩
    simp at hz
    subst hz; subst e
    have := (h.out y hy).2.2
    rw [hl] at this; cases this
  · rcases List.mem_append.1 hy with hy | hy
    · have h1 := h.out y hy
      exact ⟨h1.1, h1.2.1, by rw [h1.2.2]; rfl⟩
    · simp at hy
      subst hy
      refine ⟨hx, hA, ?_⟩
      rw [WideAt.sameKey_self (show WideAt.IsKeyLit (.int .i64 y) from trivial)]
      simp
  · rcases h.all y hy hAy with h1 | h1
    · exact .inl (List.mem_append.2 (.inl h1))
    · by_cases hyx : y = x
      · exact .inl (List.mem_append.2 (.inr (by simp [hyx])))
      · refine .inr ?_
        show (left _ && !_) = true
        rw [h1, key_ne hyx]; rfl
  · rw [List.length_append]
    have := h.len
    simp only [List.length_cons, List.length_nil]
    omega
set_option maxHeartbeats 8000000 in
theorem ag_who (h : Ag w0 w a mb n D V A) (hn : n ≤ 10000) :
    Calls Try.prog 24 #[.pointer (some ⟨a, 0, none⟩)] w fun e w' => ∃ v L, e = .returned v ∧ w'.ownsRow w.heap.size 3 1 v L.length (nums L) ∧ L.Pairwise (fun x y => x < y) ∧ (∀ x, x ∈ L ↔ ((Lit.int .i64 x).wf = true ∧ A x ≠ [])) ∧ L.length ≤ n ∧ Turn Nope w w' := by
  have HA := Lib.hid h
  have HN := Lib.hid hn
  have hmb : mb < w.heap.size := h.map.1.lt
  have HMB := Lib.hid hmb
  clear h hn hmb
  have c0 := HA.out.cell
  obtain ⟨i3, hi3, hz3, hs3, hb3⟩ := info_parts Try.info3
  have I3 := Lib.hid (And.intro hi3 (And.intro hz3 (And.intro hs3 hb3)))
  clear hi3 hz3 hs3 hb3
  go_enter Try.func24, Try.ntmps24
  go_wp2_with (first | (at_range; refine wpList_range_own _ rfl _ 56 rfl 3 53 law3 Try.underlying56 _ mb _ D rfl HA.out.map.1 ?_; intro w5 hrg hgr hs5; have HR := Lib.hid hrg; have HG := Lib.hid hgr; have HS5 := Lib.hid hs5; clear hrg hgr hs5) | fail)
  go_frame
  clear c0
  obtain ⟨rb, hrb⟩ : ∃ rb, w.heap.size = rb := ⟨_, rfl⟩
  rw [hrb] at HR HS5 ⊢
  have HRB := Lib.hid hrb
  clear hrb
  have HW0 : Hid (WhoW w0 w w5 a mb n rb D V A (.slice none 0 0) [] (Maps.has D) (Maps.size D)) :=
    ⟨HR.out, ⟨rfl, .inl ⟨rfl, rfl⟩⟩, (Turn.refl _ _).grown HG.out (fun k hk => by cases hk), List.nodup_nil, fun x hx => (by cases hx), fun x hx hA => .inr (HA.out.has hx hA), by have := HA.out.map.1.size_le; simp; exact this, by have := HS5.out; omega, by have := HRB.out; omega⟩
  go_loopg [3] (Maps.size D) (fun k v3 wr => ∃ left L, Hid (WhoW w0 w wr a mb n rb D V A v3 L left k))
  case atStart => exact ⟨_, _, HW0⟩
  case round =>
    obtain ⟨left, L, hW⟩ := hrel
    clear HW0 HR HG HS5
    go_wp2_with (first | (at_next; refine wpList_next_ranges _ rfl _ rfl 3 law3 rawElem (Value.int .i64) id (fun key kl hkey => by obtain ⟨x, rfl, _⟩ := Maps.keyOf_int_inv Try.underlying3 hkey; exact ⟨x, rfl⟩) (fun v y hv => ⟨v, rfl⟩) mb rb n D left _ rfl hW.out.rg ?_ ?_) | fail)
    · intro hc0 hl0
      have HL0 := Lib.hid hl0
      clear hl0 hc0
      go_wp2_with fail
      refine (sort_any hW.out.row (by have := hW.out.len; have := HN.out; omega)).mono ?_
      rintro e w8 ⟨rfl, hrow, ht⟩
      have HR8 := Lib.hid (And.intro hrow ht)
      clear hrow ht
      obtain ⟨M, hM⟩ : ∃ M, (L.mergeSort fun x y => decide (x ≤ y)) = M := ⟨_, rfl⟩
      have HM : Hid (M.length = L.length ∧ M.Pairwise (fun x y => x < y) ∧ ∀ x, x ∈ M ↔ x ∈ L) := by
        rw [← hM]
        exact ⟨by rw [List.length_mergeSort], sorted_lt hW.out.nd, fun x => (List.mergeSort_perm L _).mem_iff⟩
      rw [hM] at HR8
      clear hM
      have HBN := Lib.hid (own_base hW.out.row)
      go_wp2_with fail
      go_ret
      refine ⟨_, M, rfl, ?_, HM.out.2.1, fun x => ?_, by have := hW.out.len; have := HM.out.1; omega, hW.out.tn.then HR8.out.2 fun k hk => .inr (by have := HBN.out k hk; have := hW.out.wb; omega)⟩
      · rw [HM.out.1]
        exact own_lower HR8.out.1 (by have := hW.out.wb; omega)
      · rw [HM.out.2.2]
        constructor
        · intro hx
          exact ⟨(hW.out.out x hx).1, (hW.out.out x hx).2.1⟩
        · rintro ⟨hx, hAx⟩
          rcases hW.out.all x hx hAx with h1 | h1
          · exact h1
          · rw [HL0.out] at h1; cases h1
    · intro x c kl y1 y2 w7 cnt1 hkey hlk hv hat hrg1 hlt1 hg1 hs1 hen
      obtain ⟨x', ex, rfl, hwx⟩ := Maps.keyOf_int_inv Try.underlying3 hkey
      cases ex
      have HX := Lib.hid (And.intro hlk (And.intro hrg1 (And.intro hlt1 (And.intro hg1 hwx))))
      have H7 := Lib.hid (hW.out.met hrg1 hlt1 hg1)
      have HA7 := Lib.hid (HA.out.nope H7.out.2.1)
      clear hkey hlk hv hat hrg1 hlt1 hg1 hs1
      have hlk := HA7.out.look hwx
      have c0 := HA7.out.cell
      obtain ⟨Ad, cp, hv1, -⟩ := HA7.out.rows x hwx
      rw [hv1] at hlk
      clear hv1 hwx
      by_cases hAx : A x = []
      · have d1 : decide (0 < (A x).length) = false := by simp [hAx]
        have d1i : decide ((0 : Int) < ((A x).length : Int)) = false := by simp [hAx]
        have HP := Lib.hid (hW.out.skip HX.out.2.1 HX.out.2.2.1 HX.out.2.2.2.1 hAx)
        go_wp2_with fail
        go_roundg cnt1
        case measure => exact HX.out.2.2.1
        case rel => exact ⟨_, L, HP.out⟩
      · have hpos : 0 < (A x).length := List.length_pos_iff.2 hAx
        have d1 : decide (0 < (A x).length) = true := by simpa using hpos
        have d1i : decide ((0 : Int) < ((A x).length : Int)) = true := by simpa using hpos
        have HAX := Lib.hid hAx
        obtain ⟨vL, hvL⟩ : ∃ vL, L.length = vL := ⟨_, rfl⟩
        have HLL : Hid (vL ≤ 10000) := by have := hW.out.len; have := HN.out; exact (by omega : vL ≤ 10000)
        have HRW := Lib.hid H7.out.1
        rw [hvL] at HRW
        have HVL := Lib.hid hvL
        clear hAx hpos hvL
        have hll := HLL.out
        go_wp2_with (first
          | (at_builtin; go_loud (refine wpList_append_lies _ rfl _ _ _ rfl (rb + 1) 3 i3 _ 1 8 Try.underlying22 I3.out.1 I3.out.2.1 I3.out.2.2.1 I3.out.2.2.2 rfl (by omega) u3 vL (nums L) rfl (own_nope HRW.out ((Turn.refl _ _).alloc _)) ⟨w7.heap.size, 0, none⟩ 1 1 [.int .i64 x] rfl rfl (news_new w7 _ 3) (by intro u hu; simp at hu; subst hu; rfl) (by omega) (by have := HLL.out; show vL + 1 ≤ 9223372036854775807; omega) (by omega) (Nat.le_trans H7.out.2.2 (by simp)) (w7.heap.size + 1) (by simp) ?_; intro g1 cap1 w9 hown hgr hat hlt2; have HO9 := Lib.hid (And.intro hown hgr); clear hown hgr hat hlt2)))
        have HP : Hid (WhoW w0 w w9 a mb n rb D V A _ (L ++ [x]) _ cnt1) := hW.out.put HX.out.2.1 HX.out.2.2.1 HX.out.2.2.2.1 HX.out.1 HX.out.2.2.2.2 HAX.out (by rw [HVL.out]; exact HO9.out.1) HO9.out.2 HMB.out
        go_roundg cnt1
        case measure => exact HX.out.2.2.1
        case rel => exact ⟨_, _, HP.out⟩
end Go.Proofs.Ytdojdhpfhjhmfaa
