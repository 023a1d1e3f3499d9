/- As many turns as its pace goes into the tick: the walk of SchedShare. -/
import Derived.Test.YtdojdhpfhjhmfaaShareP
import Derived.Laws.Closers25
set_option maxRecDepth 16000
set_option linter.unusedVariables false
namespace Go.Proofs.Ytdojdhpfhjhmfaa
open Go.RowKit Go.Maps
attribute [local go_sem] lib_max2 lib_min2 lib_max_two lib_min_two
theorem zero3 (w : World) : (zeroValue 3).run Try.prog w = .ok (.int .i64 0) w := Try.zeroValue3 w
/-- How many turns each had, in a map. -/
def HadIs (w : World) (mb : Nat) (L : List Int) : Prop := ∃ D, w.ownsMap Try.prog 3 (plainElem (H := Unit) Try.prog 3) mb L.length D ∧ ∀ x, (Lit.int .i64 x).wf = true → D.atKey (.int .i64 x) (.lit (.int .i64 0)) = .lit (.int .i64 ((cntI L x : Nat) : Int))
variable {w0 w w' : World} {mb : Nat} {L : List Int}
theorem HadIs.keep (h : HadIs w mb L) (hk : ∀ es c, w.heap[mb]? = some (.map es c) → w'.heap[mb]? = some (.map es c)) : HadIs w' mb L := by
  obtain ⟨D, ⟨es, clock, hb, F, hs, hD⟩, h2⟩ := h
  exact ⟨D, ⟨es, clock, hk _ _ hb, F, hs, hD⟩, h2⟩
theorem HadIs.isMap (h : HadIs w mb L) : ∃ es c, w.heap[mb]? = some (.map es c) := by obtain ⟨D, ⟨es, clock, hb, _⟩, h2⟩ := h; exact ⟨_, _, hb⟩
theorem HadIs.look (h : HadIs w mb L) {x : Int} (hx : (Lit.int .i64 x).wf = true) : (Instr.lookup 27 (.map (some mb)) (.int .i64 x) false).run Try.prog w = .ok (.int .i64 ((cntI L x : Nat) : Int)) w := by
  obtain ⟨D, h1, h2⟩ := h
  obtain ⟨c, hrun, hat, _⟩ := h1.lookup_int law3 Try.underlying27 Try.underlying3 (zero3 w) (keyOf_int_mk Try.underlying3 hx)
  rw [h2 x hx] at hat
  injection hat with hat
  injection hat with _ hat
  rw [← hat] at hrun
  exact hrun
theorem wf_of {n : Int} (h0 : -9223372036854775808 ≤ n) (h1 : n ≤ 9223372036854775807) : (Lit.int .i64 n).wf = true := by
  simp [Lit.wf, IntKind.min, IntKind.max, IntKind.signed, IntKind.bits]
  omega
theorem HadIs.put {w1 : World} {D : DataW Unit} {x : Int} (hf : ∀ x, (Lit.int .i64 x).wf = true → D.atKey (.int .i64 x) (.lit (.int .i64 0)) = .lit (.int .i64 ((cntI L x : Nat) : Int))) (hD : w.ownsMap Try.prog 3 (plainElem (H := Unit) Try.prog 3) mb L.length D)
    (ho : w1.ownsMap Try.prog 3 (plainElem (H := Unit) Try.prog 3) mb (L.length + 1) (D.put (.int .i64 x) (.lit (.int .i64 ((cntI L x : Nat) + 1))))) : HadIs w1 mb (L ++ [x]) := by
  refine ⟨_, by simpa using ho, fun y hy => ?_⟩
  rw [cntI_snoc]
  by_cases hyx : y = x
  · subst hyx
    rw [if_pos rfl]
    exact atKey_put_same hD.isMap (show WideAt.IsKeyLit (.int .i64 y) from trivial) _ _
  · rw [if_neg hyx, atKey_put_other (by simpa using hyx)]
    exact hf y hy
theorem pace_any (n : Int) (w : World) : Calls Try.prog 13 #[.int .i64 n] w fun e w' => e = .returned (.int .i64 (paceOf n)) ∧ w = w' := by
  have hpx : (if 1048576 < (if n < 0 then 0 else n) then 1048576 else (if n < 0 then 0 else n)) = paceOf n := rfl
  obtain ⟨x1, hx1⟩ : ∃ x1, (if n < 0 then 0 else n) = x1 := ⟨_, rfl⟩
  rw [hx1] at hpx
  generalize paceOf n = px at *
  go_enter Try.func13, Try.ntmps13
  go_wp2_with fail
  go_ret
  exact ⟨rfl, rfl⟩
theorem at_one {mb k : Nat} (hk : some mb = some k) : At mb k := by injection hk with hk; exact hk.symm
/-- A schedule and the map beside it. -/
structure SchH (w0 w : World) (s q : Nat) (pv : Value) (P : List Int) (S : Stt) (mb : Nat) (L : List Int) : Prop where
  sch : Sch w0 w s q pv P S
  had : HadIs w mb L
  shr : Shr P L S
  lo : w0.heap.size ≤ mb
theorem SchH.nope {s q : Nat} {pv : Value} {P : List Int} {S : Stt} (h : SchH w0 w s q pv P S mb L) (ht : Turn Nope w w') : SchH w0 w' s q pv P S mb L :=
  ⟨h.sch.nope ht, h.had.keep fun es c hg => ht.blk hg fun h => h, h.shr, h.lo⟩
set_option maxHeartbeats 4000000 in
theorem share_walk (a : Option Addr) (len cap : Nat) (turns : Int) (w : World) (hin : IntsIn w a len ∧ len ≤ cap) :
    Calls Try.prog 3 #[.slice a len cap, .int .i64 turns] w fun e w' => e = .returned (.bool true) ∧ Below w.heap.size w w' := by
  obtain ⟨⟨hmx, ps, hps, hA, hwf⟩, hc⟩ := hin
  subst hps
  obtain ⟨m, hm1, hm⟩ : ∃ m : Nat, m ≤ 200 ∧ (if 200 < (if turns < 0 then 0 else turns) then 200 else (if turns < 0 then 0 else turns)) = (m : Int) := by
    refine ⟨(if 200 < (if turns < 0 then 0 else turns) then 200 else (if turns < 0 then 0 else turns)).toNat, ?_, ?_⟩ <;> (repeat' split) <;> omega
  obtain ⟨x1, hx1⟩ : ∃ x1, (if turns < 0 then 0 else turns) = x1 := ⟨_, rfl⟩
  rw [hx1] at hm
  have HA := Lib.hid hA
  have HM := Lib.hid hm
  have HX := Lib.hid hx1
  have HF := Lib.hid (fun (W : World) (h : NumsAt W a ps) => few_any h cap hc hmx)
  clear hA hm hx1 hmx hwf hc
  have hmp : ∀ W : World, (Instr.makeMap 27 none).run Try.prog W = .ok (.map (some W.heap.size)) (W.alloc (.map #[] 0)) := fun W => by first | exact run_makeMap W _ | kernel_rfl
  go_enter Try.func3, Try.ntmps3
  go_wp2_with fail
  refine (awake_any _).mono ?_
  rintro e w1 ⟨rfl, ht⟩
  have HT1 := Lib.hid ht
  have HA1 := Lib.hid (HA.out.later ht)
  clear ht
  go_wp2_with fail
  refine (HF.out _ HA1.out).mono ?_
  rintro e w2 ⟨c2, rfl, rfl⟩
  obtain ⟨qs, hqs⟩ : ∃ qs, ps.take 6 = qs := ⟨_, rfl⟩
  have hq6 : qs.length ≤ 6 := by rw [← hqs, List.length_take]; omega
  have HA2 := Lib.hid (HA1.out.take 6)
  have HAW := Lib.hid (HA.out.take 6)
  rw [hqs] at HA2 HAW ⊢
  clear HA HA1 HF hqs
  go_wp2_with fail
  refine (sch_new _ a c2 qs HA2.out (by omega)).mono ?_
  rintro e w3 ⟨s, q, pv, rfl, h3⟩
  have H3 := Lib.hid (h3.base HT1.out)
  have HA3 := Lib.hid (HA2.out.later h3.turn)
  clear h3 HA2
  obtain ⟨P, hP⟩ : ∃ P, qs.map paceOf = P := ⟨_, rfl⟩
  have HP := Lib.hid hP
  have HPR : Hid (∀ p ∈ P, 0 ≤ p ∧ p ≤ 1048576) := fun p hp => by rw [← hP] at hp; obtain ⟨x, _, rfl⟩ := List.mem_map.1 hp; exact paceOf_in x
  have HPL : Hid (P.length = qs.length) := by show _ = _; rw [← hP, List.length_map]
  rw [hP] at H3
  clear hP
  have hm := HM.out
  have hx1 := HX.out
  go_wp2_with fail
  have HSH : Hid (SchH w (w3.alloc (.map #[] 0)) s q pv P (newS P) w3.heap.size []) :=
    ⟨H3.out.nope ((Turn.refl _ _).alloc _), ⟨.map [], World.ownsMap_made _ _ _ _, fun x _ => rfl⟩, shr_new _ P rfl HPR.out, H3.out.turn.size⟩
  have HA4 : Hid (NumsAt (w3.alloc (.map #[] 0)) a qs) := HA3.out.later ((Turn.refl _ _).alloc _)
  clear hm hx1 hmp HA3 H3
  generalize w3.heap.size = mb at *
  generalize w3.alloc (.map #[] 0) = w4 at *
  have HBN : Hid ((newS P).l.length ≤ 6 ∧ (newS P).n ≤ 6) := by
    have := newT_len P
    have := HPL.out
    exact ⟨by show (newT P).2.1.length ≤ 6; omega, by show (newT P).2.2 ≤ 6; omega⟩
  go_loopg [7, 22] m (fun k v7 v22 wr => ∃ (i : Nat) (S : Stt) (L : List Int), v7 = .int .i64 S.t ∧ v22 = .int .i64 (i : Int) ∧ Hid (k + i = m ∧ S.l.length ≤ 6 ∧ S.n ≤ 6 + i ∧ L.length ≤ i) ∧ Hid (SchH w wr s q pv P S mb L ∧ NumsAt wr a qs))
  case atStart => exact ⟨0, newS P, [], rfl, rfl, ⟨by omega, HBN.out.1, by have := HBN.out.2; omega, Nat.zero_le _⟩, HSH.out, HA4.out⟩
  case round =>
    obtain ⟨i, S, L, rfl, rfl, hk, hS⟩ := hrel
    clear HSH HA4 HBN
    by_cases hlt : i < m
    · have b1 : decide ((i : Int) < (m : Int)) = true := by simp; omega
      have b1n : decide (i < m) = true := by simp; omega
      cases hst : stepT P S with
      | none =>
        have HST := Lib.hid hst
        clear hst
        go_wp2_with fail
        refine (sch_next_none hS.out.1.sch HST.out).mono ?_
        rintro e w5 ⟨rfl, rfl⟩
        go_wp2_with fail
        have HE := Lib.hid hS.out.1
        clear hS
        go_loopg [54] qs.length (fun k v54 wr => ∃ (i2 : Nat), v54 = .int .i64 (i2 : Int) ∧ Hid (k + i2 = qs.length) ∧ Hid (SchH w wr s q pv P S mb L))
        case atStart => exact ⟨0, rfl, rfl, HE.out⟩
        case round =>
          obtain ⟨i2, rfl, hk2, hE⟩ := hrel
          clear HE
          by_cases hlt2 : i2 < qs.length
          · have c1 : decide ((i2 : Int) < (qs.length : Int)) = true := by simp; omega
            have c1n : decide (i2 < qs.length) = true := by simp; omega
            obtain ⟨x, hx⟩ : ∃ x, qs[i2]? = some x := ⟨qs[i2], List.getElem?_eq_getElem hlt2⟩
            obtain ⟨ad, rfl, c0⟩ := HAW.out i2 x hx
            have c0 := cell_later hE.out.sch.turn.nopeBelow c0
            have i0 : (0 : Int) ≤ (i2 : Int) := by omega
            have i1 : (i2 : Int) < (qs.length : Int) := by omega
            have HW2 : Hid (wrap64 ((i2 : Int) + 1) = (i2 : Int) + 1) := IntWalk.wrap64_in _ ⟨by omega, by omega⟩
            have hpx : P[i2]? = some (paceOf x) := by rw [← HP.out, List.getElem?_map, hx]; rfl
            have HPX := Lib.hid hpx
            have HPN := Lib.hid (paceOf_in x)
            have hwf2 : (Lit.int .i64 (i2 : Int)).wf = true := wf_of (by omega) (by omega)
            have HLK : Hid (∀ n, (Instr.lookup 27 (.map (some mb)) (.int .i64 (i2 : Int)) false).run Try.prog (wr.drewN n) = .ok (.int .i64 ((cntI L (i2 : Int) : Nat) : Int)) (wr.drewN n)) := fun n => (hE.out.nope ((Turn.refl _ _).drewN n)).had.look hwf2
            clear hx hpx hwf2
            go_wp2_with fail
            refine (pace_any x _).mono ?_
            rintro e w6 ⟨rfl, rfl⟩
            generalize paceOf x = p at *
            by_cases hp0 : p = 0
            · have d1 : (p == 0) = true := by simp [hp0]
              have hcn : cntI L (i2 : Int) = 0 := hE.out.shr.none i2 (by have := HPX.out; rw [hp0] at this; exact this)
              have hl := HLK.out 0
              rw [hcn] at hl
              have hl : (Instr.lookup 27 (.map (some mb)) (.int .i64 (i2 : Int)) false).run Try.prog wr = .ok (.int .i64 0) wr := hl
              have d2 : ((0 : Int) != 0) = false := by simp
              clear hcn hp0
              go_wp2_with fail
              have hw2 := HW2.out
              try go_wp2_with fail
              go_roundg (qs.length - (i2 + 1))
              case measure => have := hk2.out; omega
              case rel => exact ⟨i2 + 1, by go_num, by have := hk2.out; show _ = _; omega, hE.out⟩
            · have d1 : (p == 0) = false := by simp [hp0]
              have hpp : 0 < p := by have := HPN.out.1; omega
              have HASK := Lib.hid (hE.out.shr.asks HPX.out hpp)
              have hl := HLK.out
              have hpi : ¬ p = 0 := hp0
              have hpw : p ≤ 1048576 := HPN.out.2
              have htw : 0 ≤ S.t ∧ S.t ≤ 1000000000 := ⟨hE.out.shr.ok.t0, by have := hE.out.shr.ok.t1; have := (show S.n ≤ 206 by have := hk.out; omega); omega⟩
              have hq1 : IntKind.i64.wrap (S.t - 1) = S.t - 1 := IntWalk.i64_in _ ⟨by omega, by omega⟩
              have HQ2 : Hid (IntKind.i64.wrap (S.t.tdiv p) = S.t.tdiv p) := wrap_i64_tdiv _ _ (by omega) (by omega) (by omega)
              have HQ3 : Hid (IntKind.i64.wrap ((S.t - 1).tdiv p) = (S.t - 1).tdiv p) := wrap_i64_tdiv _ _ (by omega) (by omega) (by omega)
              have HQ1 := Lib.hid hq1
              clear hp0 htw hq1
              obtain ⟨cc, hcc⟩ : ∃ cc : Int, ((cntI L (i2 : Int) : Nat) : Int) = cc := ⟨_, rfl⟩
              rw [hcc] at hl
              have HCC := Lib.hid hcc
              obtain ⟨qq, hqq⟩ : ∃ qq : Int, S.t.tdiv p = qq := ⟨_, rfl⟩
              have HQQ := Lib.hid hqq
              have g1 : decide (cc > IntKind.i64.wrap (S.t.tdiv p)) = false := by rw [HQ2.out, ← hcc]; simpa using HASK.out.1
              have g2 : decide (IntKind.i64.wrap (S.t.tdiv p) < cc) = false := g1
              have g3 : decide (cc > wrap64 (S.t.tdiv p)) = false := by rw [← IntWalk.i64_left]; exact g1
              have g4 : decide (wrap64 (S.t.tdiv p) < cc) = false := g3
              clear hcc hqq
              go_wp2_with (go_quiet (fail))
              · exfalso
                rename_i hne
                have e3 := HQ3.out
                have e1 := HQ1.out
                have h9 := HASK.out.2
                have h10 := HCC.out
                clear g1 g2 g3 g4 hl
                rw [IntWalk.i64_left] at e1 e3
                rw [e1, e3] at hne
                rw [h10] at h9
                generalize (S.t - 1).tdiv p = z at *
                first | exact h9 hne | exact absurd hne (Int.not_lt.2 h9)
              have hw2 := HW2.out
              try go_wp2_with fail
              go_roundg (qs.length - (i2 + 1))
              case measure => have := hk2.out; omega
              case rel => exact ⟨i2 + 1, by go_num, by have := hk2.out; show _ = _; omega, hE.out.nope (by repeat (first | exact Turn.refl _ _ | apply Turn.drewN | apply Turn.drew))⟩
          · have c1 : decide ((i2 : Int) < (qs.length : Int)) = false := by simp; omega
            have c1n : decide (i2 < qs.length) = false := by simp; omega
            clear hlt2
            go_wp2_with fail
            go_ret
            exact ⟨rfl, hE.out.sch.turn.nopeBelow⟩
      | some r =>
        obtain ⟨who, S'⟩ := r
        have HST := Lib.hid hst
        have HSH1 := Lib.hid (hS.out.1.shr.step hst)
        have hos := okay_step hS.out.1.shr.ok hS.out.1.shr.rises hst
        have hbd := stepT_bd hst
        obtain ⟨_, hmono, j, rfl, hj⟩ := hos
        have HMO := Lib.hid hmono
        have HBD := Lib.hid hbd
        have HW : Hid (wrap64 ((i : Int) + 1) = (i : Int) + 1) := IntWalk.wrap64_in _ ⟨by omega, by omega⟩
        clear hst hmono hbd
        go_wp2_with fail
        refine (sch_next_some hS.out.1.sch (by have := hk.out.2.1; omega) (by have := hk.out.2.2.1; omega) HST.out).mono ?_
        rintro e w5 ⟨rfl, h5, hk5⟩
        have H5 := Lib.hid h5
        have HH5 : Hid (HadIs w5 mb L) := hS.out.1.had.keep fun es c hg => hk5.keep _ _ hg fun h => h
        clear h5 hk5
        have HD5 : Hid (Turn Nope w w5) := H5.out.turn
        have e1 : decide (S'.t < S.t) = false := by rw [decide_eq_false_iff_not]; exact Int.not_lt.2 HMO.out
        have e2 : decide ((j : Int) < 0) = false := by simp
        have hjq : j < qs.length := by rw [← HPL.out]; exact hj
        have e3 : decide ((j : Int) ≥ (qs.length : Int)) = false := by simp; omega
        have e3' : decide ((qs.length : Int) ≤ (j : Int)) = false := by simp; omega
        have e3n : decide (qs.length ≤ j) = false := by simp; omega
        have hwfj : (Lit.int .i64 (j : Int)).wf = true := wf_of (by omega) (by omega)
        have hkey := keyOf_int_mk Try.underlying3 hwfj
        have hlk := HH5.out.look hwfj
        have hcl := cntI_le L (j : Int)
        have hcw : wrap64 (((cntI L (j : Int) : Nat) : Int) + 1) = ((cntI L (j : Int) : Nat) : Int) + 1 := IntWalk.wrap64_in _ ⟨by omega, by have := hk.out; omega⟩
        have hcf : (Lit.int .i64 (((cntI L (j : Int) : Nat) : Int) + 1)).wf = true := wf_of (by omega) (by have := hk.out; omega)
        obtain ⟨D, hD, hDf⟩ := HH5.out
        have HDD := Lib.hid hD
        have HDF := Lib.hid hDf
        clear hcl hD hDf hjq
        go_wp2_with (first
          | (go_at_call 12; refine (sb_tick H5.out.at_).mono ?_; rintro e w' ⟨rfl, rfl⟩)
          | (at_mapUpdate; refine wpList_mapUpdate_own _ rfl _ _ _ 27 rfl 3 3 law3 Try.underlying27 _ mb L.length D rfl HDD.out (by show L.length < maxLen; have := hk.out; unfold maxLen; omega) _ _ (.int .i64 (j : Int)) rfl rfl hkey (.lit (.int .i64 (((cntI L (j : Int) : Nat) : Int) + 1))) [] (by rw [hcw]; exact plainElem_int Try.underlying3 hcf) ?_; intro w6 hown1 hgrow1; have HH6 : Hid (HadIs w6 mb (L ++ [(j : Int)])) := HadIs.put HDF.out HDD.out hown1; have HS6 : Hid (Sch w w6 s q pv P S') := H5.out.offMap ((Turn.refl (At mb) _).grown hgrow1 (fun k hk => .inl (at_one hk))) HH5.out.isMap hS.out.1.lo; clear hown1 hgrow1))
        have hw := HW.out
        try go_wp2_with fail
        go_roundg (m - (i + 1))
        case measure => have := hk.out; omega
        case rel => exact ⟨i + 1, S', L ++ [(j : Int)], rfl, by go_num, ⟨by have := hk.out; omega, Nat.le_trans HBD.out.1 hk.out.2.1, by have := hk.out; have := HBD.out.2; omega, by rw [List.length_append]; have := hk.out.2.2.2; show L.length + 1 ≤ i + 1; omega⟩, ⟨HS6.out, HH6.out, HSH1.out, hS.out.1.lo⟩, HAW.out.later HS6.out.turn⟩
    · have b1 : decide ((i : Int) < (m : Int)) = false := by simp; omega
      have b1n : decide (i < m) = false := by simp; omega
      clear hlt
      go_wp2_with fail
      have HE := Lib.hid hS.out.1
      clear hS
      go_loopg [54] qs.length (fun k v54 wr => ∃ (i2 : Nat), v54 = .int .i64 (i2 : Int) ∧ Hid (k + i2 = qs.length) ∧ Hid (SchH w wr s q pv P S mb L))
      case atStart => exact ⟨0, rfl, rfl, HE.out⟩
      case round =>
        obtain ⟨i2, rfl, hk2, hE⟩ := hrel
        clear HE
        by_cases hlt2 : i2 < qs.length
        · have c1 : decide ((i2 : Int) < (qs.length : Int)) = true := by simp; omega
          have c1n : decide (i2 < qs.length) = true := by simp; omega
          obtain ⟨x, hx⟩ : ∃ x, qs[i2]? = some x := ⟨qs[i2], List.getElem?_eq_getElem hlt2⟩
          obtain ⟨ad, rfl, c0⟩ := HAW.out i2 x hx
          have c0 := cell_later hE.out.sch.turn.nopeBelow c0
          have i0 : (0 : Int) ≤ (i2 : Int) := by omega
          have i1 : (i2 : Int) < (qs.length : Int) := by omega
          have HW2 : Hid (wrap64 ((i2 : Int) + 1) = (i2 : Int) + 1) := IntWalk.wrap64_in _ ⟨by omega, by omega⟩
          have hpx : P[i2]? = some (paceOf x) := by rw [← HP.out, List.getElem?_map, hx]; rfl
          have HPX := Lib.hid hpx
          have HPN := Lib.hid (paceOf_in x)
          have hwf2 : (Lit.int .i64 (i2 : Int)).wf = true := wf_of (by omega) (by omega)
          have HLK : Hid (∀ n, (Instr.lookup 27 (.map (some mb)) (.int .i64 (i2 : Int)) false).run Try.prog (wr.drewN n) = .ok (.int .i64 ((cntI L (i2 : Int) : Nat) : Int)) (wr.drewN n)) := fun n => (hE.out.nope ((Turn.refl _ _).drewN n)).had.look hwf2
          clear hx hpx hwf2
          go_wp2_with fail
          refine (pace_any x _).mono ?_
          rintro e w6 ⟨rfl, rfl⟩
          generalize paceOf x = p at *
          by_cases hp0 : p = 0
          · have d1 : (p == 0) = true := by simp [hp0]
            have hcn : cntI L (i2 : Int) = 0 := hE.out.shr.none i2 (by have := HPX.out; rw [hp0] at this; exact this)
            have hl := HLK.out 0
            rw [hcn] at hl
            have hl : (Instr.lookup 27 (.map (some mb)) (.int .i64 (i2 : Int)) false).run Try.prog wr = .ok (.int .i64 0) wr := hl
            have d2 : ((0 : Int) != 0) = false := by simp
            clear hcn hp0
            go_wp2_with fail
            have hw2 := HW2.out
            try go_wp2_with fail
            go_roundg (qs.length - (i2 + 1))
            case measure => have := hk2.out; omega
            case rel => exact ⟨i2 + 1, by go_num, by have := hk2.out; show _ = _; omega, hE.out⟩
          · have d1 : (p == 0) = false := by simp [hp0]
            have hpp : 0 < p := by have := HPN.out.1; omega
            have HASK := Lib.hid (hE.out.shr.asks HPX.out hpp)
            have hl := HLK.out
            have hpi : ¬ p = 0 := hp0
            have hpw : p ≤ 1048576 := HPN.out.2
            have htw : 0 ≤ S.t ∧ S.t ≤ 1000000000 := ⟨hE.out.shr.ok.t0, by have := hE.out.shr.ok.t1; have := (show S.n ≤ 206 by have := hk.out; omega); omega⟩
            have hq1 : IntKind.i64.wrap (S.t - 1) = S.t - 1 := IntWalk.i64_in _ ⟨by omega, by omega⟩
            have HQ2 : Hid (IntKind.i64.wrap (S.t.tdiv p) = S.t.tdiv p) := wrap_i64_tdiv _ _ (by omega) (by omega) (by omega)
            have HQ3 : Hid (IntKind.i64.wrap ((S.t - 1).tdiv p) = (S.t - 1).tdiv p) := wrap_i64_tdiv _ _ (by omega) (by omega) (by omega)
            have HQ1 := Lib.hid hq1
            clear hp0 htw hq1
            obtain ⟨cc, hcc⟩ : ∃ cc : Int, ((cntI L (i2 : Int) : Nat) : Int) = cc := ⟨_, rfl⟩
            rw [hcc] at hl
            have HCC := Lib.hid hcc
            obtain ⟨qq, hqq⟩ : ∃ qq : Int, S.t.tdiv p = qq := ⟨_, rfl⟩
            have HQQ := Lib.hid hqq
            have g1 : decide (cc > IntKind.i64.wrap (S.t.tdiv p)) = false := by rw [HQ2.out, ← hcc]; simpa using HASK.out.1
            have g2 : decide (IntKind.i64.wrap (S.t.tdiv p) < cc) = false := g1
            have g3 : decide (cc > wrap64 (S.t.tdiv p)) = false := by rw [← IntWalk.i64_left]; exact g1
            have g4 : decide (wrap64 (S.t.tdiv p) < cc) = false := g3
            clear hcc hqq
            go_wp2_with (go_quiet (fail))
            · exfalso
              rename_i hne
              have e3 := HQ3.out
              have e1 := HQ1.out
              have h9 := HASK.out.2
              have h10 := HCC.out
              clear g1 g2 g3 g4 hl
              rw [IntWalk.i64_left] at e1 e3
              rw [e1, e3] at hne
              rw [h10] at h9
              generalize (S.t - 1).tdiv p = z at *
              first | exact h9 hne | exact absurd hne (Int.not_lt.2 h9)
            have hw2 := HW2.out
            try go_wp2_with fail
            go_roundg (qs.length - (i2 + 1))
            case measure => have := hk2.out; omega
            case rel => exact ⟨i2 + 1, by go_num, by have := hk2.out; show _ = _; omega, hE.out.nope (by repeat (first | exact Turn.refl _ _ | apply Turn.drewN | apply Turn.drew))⟩
        · have c1 : decide ((i2 : Int) < (qs.length : Int)) = false := by simp; omega
          have c1n : decide (i2 < qs.length) = false := by simp; omega
          clear hlt2
          go_wp2_with fail
          go_ret
          exact ⟨rfl, hE.out.sch.turn.nopeBelow⟩
end Go.Proofs.Ytdojdhpfhjhmfaa
