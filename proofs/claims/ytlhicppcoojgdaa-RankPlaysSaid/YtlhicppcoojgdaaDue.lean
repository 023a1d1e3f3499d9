import Derived.Test.YtlhicppcoojgdaaDrops
set_option linter.unusedVariables false
namespace Go.Proofs.Ytlhicppcoojgdaa
open Go.RowKit
attribute [local go_sem] lib_max2 lib_min2 lib_max_two lib_min_two
theorem due_late (t : Int) (l : List Thing) : (dueOf t l).length + (lateOf t l).length = l.length := by
  unfold dueOf lateOf
  induction l with
  | nil => rfl
  | cons x l ih =>
    by_cases h : dueT t x = true
    · rw [List.filter_cons_of_pos h, List.filter_cons_of_neg (by simp [h])]; simp; omega
    · rw [List.filter_cons_of_neg h, List.filter_cons_of_pos (by simpa using h)]; simp; omega
theorem dueOf_insR (t : Int) (x : Thing) (l : List Thing) : (dueOf t (insR x l)).length = (dueOf t l).length + if x.1 ≤ t then 1 else 0 := by
  unfold dueOf
  rw [((insR_perm x l).filter _).length_eq]
  by_cases h : x.1 ≤ t
  · rw [List.filter_cons_of_pos (by simpa [dueT] using h), if_pos h]; rfl
  · rw [List.filter_cons_of_neg (by simpa [dueT] using h), if_neg h]; rfl
theorem due_of_late (t : Int) (l : List Thing) : dueOf t (lateOf t l) = [] ∧ lateOf t (lateOf t l) = lateOf t l := by
  unfold dueOf lateOf
  rw [List.filter_filter, List.filter_filter]
  simp
theorem late_gt {t : Int} {l : List Thing} {x : Thing} (h : x ∈ lateOf t l) : t < x.1 := by
  have := (List.mem_filter.1 h).2
  unfold dueT at this
  simp at this
  exact this
theorem due_le {t : Int} {l : List Thing} {x : Thing} (h : x ∈ dueOf t l) : x.1 ≤ t := by
  have := (List.mem_filter.1 h).2
  unfold dueT at this
  simp at this
  exact this
theorem row_at {w : World} {base c : Nat} {A : Option Addr} {l : List Thing} (h : w.ownsRow base 3 1 (.slice A l.length c) l.length (whoT l)) {j : Nat} {x : Thing} (hj : l[j]? = some x) : ∃ g, A = some ⟨g, 0, none⟩ ∧ w.cell? ⟨g, j, none⟩ = some (.int .i64 x.2) := by
  obtain ⟨A', c', e, hc⟩ := row_ints h rfl
  injection e with e1 _ _
  subst e1
  exact hc j x hj
theorem ord_at {l : List Thing} (h : Ord2 l) {j : Nat} {x y : Thing} (hx : l[j]? = some x) (hy : l[j + 1]? = some y) : x.1 ≤ y.1 := by
  obtain ⟨h1, e1⟩ := List.getElem?_eq_some_iff.1 hx
  obtain ⟨h2, e2⟩ := List.getElem?_eq_some_iff.1 hy
  have := List.pairwise_iff_getElem.1 h j (j + 1) h1 h2 (by omega)
  rw [e1, e2] at this
  omega
set_option maxRecDepth 8000 in
set_option maxHeartbeats 8000000 in
theorem due_walk (a : Option Addr) (len cap : Nat) (at0 : Int) (w : World) (hin : IntsIn w a len) :
    Calls Try.prog 4 #[.slice a len cap, .int .i64 at0] w fun e w' => e = .returned (.bool true) ∧ Below w.heap.size w w' := by
  obtain ⟨ts, hin⟩ := hin
  have HIN := Lib.hid hin
  clear hin
  obtain ⟨n, hnl, hn, hmin⟩ := min_of len 60
  replace hmin : (if (60 : Int) < (len : Int) then (60 : Int) else (len : Int)) = (n : Int) := hmin
  go_enter Try.func4, Try.ntmps4
  go_wp2_with fail
  refine (awake_any _).mono ?_
  rintro e w1 ⟨rfl, ht⟩
  have HT1 := Lib.hid ht
  clear ht
  go_wp2_with fail
  refine (one_new w _ HT1.out).mono ?_
  rintro e w2 ⟨q, rfl, h, ht⟩
  have HQ2 := Lib.hid h
  clear h ht HT1
  go_wp2_with fail
  clear hmin
  go_loopg [7, 8] n (fun k v7 v8 wr => ∃ (i : Nat) (l : List Thing), v8 = .int .i64 (i : Int) ∧ v7 = .int .i64 ((dueOf at0 l).length : Int) ∧ Hid (k + i = n ∧ l.length = i ∧ Filled ts i l ∧ One w wr q l i))
  case atStart => exact ⟨0, [], rfl, rfl, rfl, rfl, Filled.nil ts, HQ2.out⟩
  case round =>
    obtain ⟨i, l, rfl, rfl, hi⟩ := hrel
    clear HQ2
    have hin := hi.out.1
    have HLL := Lib.hid hi.out.2.1
    have HDL := Lib.hid (due_late at0 l)
    by_cases hlt : i < n
    · have b1 : decide ((i : Int) < (n : Int)) = true := by simp; omega
      have b1n : decide (i < n) = true := by simp; omega
      have hw : wrap64 ((i : Int) + 1) = (i : Int) + 1 := IntWalk.wrap64_in _ ⟨by omega, by omega⟩
      have hw2 : wrap64 (((dueOf at0 l).length : Int) + 1) = ((dueOf at0 l).length : Int) + 1 := by have := HDL.out; have := HLL.out; exact IntWalk.wrap64_in _ ⟨by omega, by omega⟩
      obtain ⟨ad, rfl, c0⟩ := HIN.out.2 i (by omega)
      have C0 : Hid (∀ {W}, Turn Nope w W → W.cell? (ad.add i) = some (.int .i64 (ts i))) := fun h => cell_later h.nopeBelow c0
      have c0 := C0.out hi.out.2.2.2.turn
      have i0 : (0 : Int) ≤ (i : Int) := by omega
      have i1 : (i : Int) < (len : Int) := by omega
      have HDI := Lib.hid (dueOf_insR at0 (ts i, (i : Int)) l)
      by_cases hd : ts i ≤ at0
      · have e1 : decide (ts i ≤ at0) = true := by simp; omega
        have HDJ : Hid ((dueOf at0 (insR (ts i, (i : Int)) l)).length = (dueOf at0 l).length + 1) := by show _ = _; rw [HDI.out, if_pos hd]
        clear hd HDI
        generalize hdl : (dueOf at0 l).length = D at *
        have HDD := Lib.hid hdl
        clear hdl
        go_wp2_with fail
        refine (one_add hi.out.2.2.2 (by rw [HLL.out]; omega) (by omega) (ts i) i).mono ?_
        rintro e w3 ⟨rfl, h3, _⟩
        have H3 := Lib.hid h3
        clear h3 c0
        have c0 := C0.out H3.out.turn
        go_wp2_with fail
        go_roundg (n - (i + 1))
        case measure => omega
        case rel => exact ⟨i + 1, insR (ts i, (i : Int)) l, by go_num, by rw [HDJ.out]; first | rfl | go_num, by omega, by rw [insR_length, HLL.out], hi.out.2.2.1.add, H3.out⟩
      · have e1 : decide (ts i ≤ at0) = false := by simp; omega
        have HDJ : Hid ((dueOf at0 (insR (ts i, (i : Int)) l)).length = (dueOf at0 l).length + 0) := by show _ = _; rw [HDI.out, if_neg hd]
        clear hd HDI
        generalize hdl : (dueOf at0 l).length = D at *
        have HDD := Lib.hid hdl
        clear hdl
        go_wp2_with fail
        refine (one_add hi.out.2.2.2 (by rw [HLL.out]; omega) (by omega) (ts i) i).mono ?_
        rintro e w3 ⟨rfl, h3, _⟩
        have H3 := Lib.hid h3
        clear h3 c0
        have c0 := C0.out H3.out.turn
        go_wp2_with fail
        go_roundg (n - (i + 1))
        case measure => omega
        case rel => exact ⟨i + 1, insR (ts i, (i : Int)) l, by go_num, by rw [HDJ.out]; first | rfl | go_num, by omega, by rw [insR_length, HLL.out], hi.out.2.2.1.add, H3.out⟩
    · obtain rfl : i = n := by omega
      have HF := Lib.hid hi.out.2.2.1
      have HQ3 := Lib.hid hi.out.2.2.2
      have b1 : decide ((i : Int) < (i : Int)) = false := by simp
      clear hi hin hlt
      go_wp2_with fail
      refine (one_due HQ3.out (by rw [HLL.out]; omega) at0).mono ?_
      rintro e w3 ⟨v, rfl, hv, h3, _⟩
      obtain ⟨A, c, rfl, _⟩ := own_slice hv
      have HV := Lib.hid hv
      have H3 := Lib.hid h3
      clear hv h3
      have HFD : Hid (Filled ts i (dueOf at0 l)) := HF.out.sub List.filter_sublist
      have HDE : Hid (∀ x ∈ dueOf at0 l, x.1 ≤ at0) := fun x hx => due_le hx
      have HLA : Hid (∀ x ∈ lateOf at0 l, at0 < x.1) := fun x hx => late_gt hx
      have HLR := Lib.hid (due_of_late at0 l)
      clear HQ3 HF
      generalize dueOf at0 l = D at *
      generalize lateOf at0 l = R at *
      go_wp2_with fail
      go_loopg [10, 11, 46] D.length (fun k v10 v11 v46 wr => ∃ (j : Nat), v46 = .int .i64 (j : Int) ∧ Hid (k + j = D.length) ∧ Hid (wr.ownsRow w.heap.size 3 1 (.slice A D.length c) D.length (whoT D) ∧ One w wr q R i))
      case atStart => exact ⟨0, rfl, rfl, HV.out, H3.out⟩
      case round =>
        obtain ⟨j, rfl, hj1, hj⟩ := hrel
        have hji := hj1.out
        have hdn : D.length ≤ i := by have := HDL.out; have := HLL.out; omega
        clear HV H3 hj1
        obtain ⟨A', rfl⟩ : ∃ A', A' = A := ⟨A, rfl⟩
        by_cases hlt : j < D.length
        · obtain ⟨x, hx⟩ : ∃ x, D[j]? = some x := ⟨D[j], List.getElem?_eq_getElem hlt⟩
          obtain ⟨y, rfl, hy⟩ := HFD.out.mem x (List.mem_of_getElem? hx)
          obtain ⟨g, rfl, g0⟩ := row_at hj.out.1 hx
          have d1 : decide ((j : Int) < (D.length : Int)) = true := by simp; omega
          have d1n : decide (j < D.length) = true := by simp; omega
          have d2 : decide ((y : Int) < 0) = false := by simp
          have d3 : decide ((y : Int) ≥ (i : Int)) = false := by simp; omega
          have d3' : decide ((i : Int) ≤ (y : Int)) = false := by simp; omega
          have d3n : decide (i ≤ y) = false := by simp; omega
          have hde := HDE.out _ (List.mem_of_getElem? hx)
          have d4 : decide (ts y > at0) = false := by simp; exact hde
          have d4' : decide (at0 < ts y) = false := by simp; exact hde
          clear hde
          obtain ⟨ad, rfl, c0⟩ := HIN.out.2 y (by omega)
          have c0 := cell_later hj.out.2.turn.nopeBelow c0
          have y0 : (0 : Int) ≤ (y : Int) := by omega
          have y1 : (y : Int) < (len : Int) := by omega
          have j0 : (0 : Int) ≤ (j : Int) := by omega
          have j1 : (j : Int) < (D.length : Int) := by omega
          have hw : wrap64 ((j : Int) + 1) = (j : Int) + 1 := IntWalk.wrap64_in _ ⟨by omega, by omega⟩
          have HX := Lib.hid hx
          clear hx
          cases j with
          | zero =>
            have p1 : decide (((0 : Nat) : Int) > 0) = false := by simp
            have p2 : decide ((0 : Int) > 0) = false := by simp
            go_wp2_with (first | (go_quiet (fail)))
            go_roundg (D.length - (0 + 1))
            case measure => omega
            case rel => exact ⟨1, by go_num, by show _ = _; omega, own_nope hj.out.1 (by repeat (first | exact Turn.refl _ _ | apply Turn.drewN | apply Turn.drew)), hj.out.2.nope (by repeat (first | exact Turn.refl _ _ | apply Turn.drewN | apply Turn.drew))⟩
          | succ k =>
            obtain ⟨x', hx'⟩ : ∃ x, D[k]? = some x := ⟨D[k], List.getElem?_eq_getElem (by omega)⟩
            obtain ⟨y', rfl, hy'⟩ := HFD.out.mem x' (List.mem_of_getElem? hx')
            have hle := ord_at HFD.out.ord hx' HX.out
            obtain ⟨g', eg, g1⟩ := row_at hj.out.1 hx'
            injection eg with eg
            injection eg with eg
            subst eg
            obtain ⟨ad', ead, c1⟩ := HIN.out.2 y' (by omega)
            injection ead with ead
            subst ead
            have c1 := cell_later hj.out.2.turn.nopeBelow c1
            clear hx'
            have p1 : decide ((((k + 1 : Nat)) : Int) > 0) = true := by rw [decide_eq_true_eq]; omega
            have p2 : decide ((k : Int) + 1 > 0) = true := by rw [decide_eq_true_eq]; omega
            have p2' : decide (0 < (k : Int) + 1) = true := by rw [decide_eq_true_eq]; omega
            have p3 : ((k : Int) + 1) - 1 = (k : Int) := by omega
            have d5 : decide (ts y' > ts y) = false := by simp; exact hle
            have d5' : decide (ts y < ts y') = false := by simp; exact hle
            have z0 : (0 : Int) ≤ (y' : Int) := by omega
            have z1 : (y' : Int) < (len : Int) := by omega
            have k0 : (0 : Int) ≤ (k : Int) := by omega
            have k1 : (k : Int) < (D.length : Int) := by omega
            clear hle
            go_wp2_with (first | (go_quiet (fail)))
            go_roundg (D.length - (k + 1 + 1))
            case measure => omega
            case rel => exact ⟨k + 1 + 1, by go_num, by show _ = _; omega, own_nope hj.out.1 (by repeat (first | exact Turn.refl _ _ | apply Turn.drewN | apply Turn.drew)), hj.out.2.nope (by repeat (first | exact Turn.refl _ _ | apply Turn.drewN | apply Turn.drew))⟩
        · have d1 : decide ((j : Int) < (D.length : Int)) = false := by simp; omega
          have d1n : decide (j < D.length) = false := by simp; omega
          have f1 : ((D.length : Int) == (D.length : Int)) = true := by simp
          have hRl : R.length + D.length = i := by have := HDL.out; have := HLL.out; omega
          have f2 : ((R.length : Int) == ((i : Int) - (D.length : Int))) = true := by simp; omega
          have HRL := Lib.hid hRl
          clear hlt hji HFD HDE HDL
          cases R with
          | nil =>
            have hRl : D.length = i := by simpa using hRl
            have f2' : ((0 : Int) == ((i : Int) - (D.length : Int))) = true := by simp; omega
            have f3 : decide ((i : Int) > (D.length : Int)) = false := by simp; omega
            have f3' : decide ((D.length : Int) < (i : Int)) = false := by simp; omega
            have f3n : decide (D.length < i) = false := by simp; omega
            clear hRl
            go_wp2_with fail
            refine (one_first_none hj.out.2).mono ?_
            rintro e w4 ⟨rfl, rfl⟩
            go_wp2_with fail
            refine (one_due hj.out.2 (by simp) at0).mono ?_
            rintro e w5 ⟨v5, rfl, hv5, h5, _⟩
            rw [HLR.out.1] at hv5
            rw [HLR.out.2] at h5
            obtain ⟨A5, c5, rfl, _⟩ := own_slice hv5
            have H5 := Lib.hid h5
            clear hv5 h5
            go_wp2_with fail
            refine (one_len H5.out).mono ?_
            rintro e w6 ⟨rfl, rfl⟩
            go_wp2_with fail
            go_ret
            exact ⟨rfl, H5.out.turn.nopeBelow⟩
          | cons x R =>
            obtain ⟨t, who⟩ := x
            have hgt : at0 < t := HLA.out (t, who) List.mem_cons_self
            have hRl : R.length + 1 + D.length = i := by simpa using hRl
            have f2' : (((R.length : Int) + 1) == ((i : Int) - (D.length : Int))) = true := by simp; omega
            have f3 : decide ((i : Int) > (D.length : Int)) = true := by simp; omega
            have f3' : decide ((D.length : Int) < (i : Int)) = true := by simp; omega
            have f3n : decide (D.length < i) = true := by simp; omega
            have f4 : decide (t > at0) = true := by simp; exact hgt
            have f4' : decide (at0 < t) = true := by simp; exact hgt
            clear hRl hgt
            go_wp2_with fail
            refine (one_first_some hj.out.2 (by have := HRL.out; simp at this; omega)).mono ?_
            rintro e w4 ⟨rfl, h4, _⟩
            have H4 := Lib.hid h4
            clear h4
            go_wp2_with fail
            refine (one_due H4.out (by have := HRL.out; simp at this; simp; omega) at0).mono ?_
            rintro e w5 ⟨v5, rfl, hv5, h5, _⟩
            rw [HLR.out.1] at hv5
            rw [HLR.out.2] at h5
            obtain ⟨A5, c5, rfl, _⟩ := own_slice hv5
            have H5 := Lib.hid h5
            clear hv5 h5
            go_wp2_with fail
            refine (one_len H5.out).mono ?_
            rintro e w6 ⟨rfl, rfl⟩
            go_wp2_with fail
            go_ret
            exact ⟨rfl, H5.out.turn.nopeBelow⟩
end Go.Proofs.Ytlhicppcoojgdaa
