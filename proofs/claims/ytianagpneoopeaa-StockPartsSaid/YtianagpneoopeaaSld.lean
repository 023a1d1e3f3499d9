/- Load, walked: what was saved is there again. -/
import Derived.Test.YtianagpneoopeaaTk
import Derived.WideKeyEntry
import Derived.Deep.CutBlock
set_option maxRecDepth 16000
set_option linter.unusedVariables false
set_option linter.unusedSimpArgs false
namespace Go.Proofs.Ytianagpneoopeaa
open Go.RowKit Go.Maps PStockParts Go.Proofs.YtianagpneoopeaaW.PrintWords
open Go.ChangeMaps (setBlock heap_setBlock_same heap_setBlock_other)
variable {C : Nm → Int} {K L : List Nm} {w0 w w' : World} {s mb n : Nat} {D : Dm} {o : Op3}
theorem rd_turn {g : Nat} (h1 : Below w0.heap.size w0 w) (h2 : Below w0.heap.size w0 w') (k : KeepBut w w' g none) : Turn (At g) w w' :=
  ⟨h2.os.trans h1.os.symm, h2.tape.trans h1.tape.symm, h2.output.trans h1.output.symm, k.1, fun i hi hn => k.2 i hi hn (by simp)⟩
theorem setBlock_twice (w : World) (b : Nat) (o1 o2 : Obj) : setBlock (setBlock w b o1) b o2 = setBlock w b o2 := by
  unfold setBlock
  simp [Array.setIfInBounds_setIfInBounds]
theorem CntM.entry (h : CntM w mb n D C K) {x : ByteArray} (hx : x.size ≤ maxLen) (hn : n < maxLen) {v : Int} (hv : (Lit.int .i64 v).wf = true) :
    ∃ (v0 : Value) (st : Int) (w1 w2 : World), (Instr.mapEntry 43 (.map (some mb)) (.string x)).run Try.prog w = .ok (.tuple #[v0, .int .i64 st]) w1 ∧ (Instr.entryStore 43 (.map (some mb)) (.int .i64 st) (.int .i64 v)).run Try.prog w1 = .ok () w2 ∧
      w2.ownsMap Try.prog 9 (plainElem (H := Unit) Try.prog 3) mb (n + 1) (D.put (.string (nmOf x)) (.lit (.int .i64 v))) ∧ w.grownBy w2 (some mb) ∧ w.grownBy w1 (some mb) := by
  obtain ⟨es, clock, hb, F, hs, hD⟩ := h.own
  have hkey : keyOf Try.prog 9 (.string x) = some (.string (nmOf x)) := Go.WideMaps.keyOf_string_mk Try.underlying9 hx
  obtain ⟨v0, st, es1, clock1, h1, _, h2⟩ := Go.WideElems.entry_then_store (Go.WideMaps.string_law Try.underlying9) Try.underlying43 (fun u => zero3 u) hb F hkey
  obtain ⟨es', clock', h3, h4⟩ := h2 (setBlock w mb (.map es1 clock1)) (.int .i64 v) (heap_setBlock_same hb _)
  obtain ⟨w2, h5, h6, h7⟩ := h.own.update law9 Try.underlying43 hn hkey (val := .int .i64 v) (plainElem_int Try.underlying3 hv)
  rw [h4] at h5
  injection h5 with _ h5
  rw [setBlock_twice, h5] at h3
  refine ⟨v0, (st : Int), _, w2, h1, h3, h6, h7, ⟨rfl, rfl, rfl, by simp [setBlock], fun i _ hi => heap_setBlock_other hb _ (fun e => hi (by rw [e]))⟩⟩
/-- A shelf's goods, those among the first i names. -/
def cutC (C : Nm → Int) (L : List Nm) (i : Nat) : Nm → Int := fun x => if x ∈ L.take i then C x else 0
theorem cut_good (h : Good C K) (hL : L.Nodup) (hm : ∀ x, x ∈ L ↔ x ∈ K) (hl : L.length ≤ 16) (i : Nat) : Good (cutC C L i) (L.take i).reverse := by
  have hin : ∀ x, x ∈ L.take i → x ∈ K := fun x hx => (hm x).1 (List.mem_of_mem_take hx)
  refine ⟨List.pairwise_reverse.2 ((hL.sublist (List.take_sublist _ _)).imp fun {a b} h e => h e.symm), fun x => ?_, fun x => ?_, fun x => ?_, fun x hx => h.nm x (hin x (List.mem_reverse.1 hx)), by rw [List.length_reverse, List.length_take]; omega⟩
  · rw [List.mem_reverse]
    unfold cutC
    split
    · rename_i hx; exact ⟨fun _ => (h.mem x).1 (hin x hx), fun _ => hx⟩
    · rename_i hx; exact ⟨fun e => absurd e hx, fun e => absurd rfl e⟩
  · unfold cutC; split; exact h.lo x; exact Int.le_refl _
  · unfold cutC; split; exact h.hi x; decide
theorem cut_all (h : Good C K) (hm : ∀ x, x ∈ L ↔ x ∈ K) {i : Nat} (hi : L.length ≤ i) : cutC C L i = C := by
  funext x
  unfold cutC
  rw [List.take_of_length_le hi]
  split
  · rfl
  · rename_i hx
    by_cases h0 : C x = 0
    · exact h0.symm
    · exact absurd ((hm x).2 ((h.mem x).2 h0)) hx
theorem good_len2 {C : Nm → Int} {x : Nm} (hx : x.length ≤ 12) (hc : C x ≤ 1099511627776) : (goodBs C x).length ≤ 32 := by
  unfold goodBs
  have h1 := num_le x.length (by omega)
  have h2 := num_le (C x).toNat (by omega)
  simp only [List.length_append, List.length_map]
  omega
theorem goods_len (h : Good C K) : ∀ M : List Nm, (∀ x ∈ M, x.length ≤ 12) → (M.flatMap (goodBs C)).length ≤ 32 * M.length
  | [], _ => by simp
  | x :: M, hM => by
    have h1 := good_len2 (C := C) (hM x List.mem_cons_self) (h.hi x)
    have h2 := goods_len h M fun y hy => hM y (List.mem_cons_of_mem _ hy)
    rw [List.flatMap_cons, List.length_append, List.length_cons]; omega
/-- In the middle of the goods. -/
structure LoadW (w wr : World) (s mb g i : Nat) (L : List Nm) (C : Nm → Int) (r : ByteArray) : Prop where
  sh : Sh w wr s mb i (cutC C L i) (L.take i).reverse
  rd : IsS67 w wr g r 0
  nbr : nb r = (L.drop i).flatMap (goodBs C)
  bl : Below w.heap.size w wr
  ne : g ≠ s ∧ g ≠ mb
theorem LoadW.read {wr w2 : World} {g i : Nat} {r r2 : ByteArray} (h : LoadW w wr s mb g i L C r) (hi : IsS67 w w2 g r2 0) (hb : Below w.heap.size w w2) (hk : KeepBut wr w2 g none) : Sh w w2 s mb i (cutC C L i) (L.take i).reverse :=
  h.sh.turn (rd_turn h.bl hb hk) (fun e => h.ne.1 (show s = g from e).symm) (fun e => h.ne.2 (show mb = g from e).symm)
theorem srt_lt (h : K.Nodup) : (srt K).Pairwise (fun x y => ¬ y ≤ x) := by
  have tr : ∀ a b c : Nm, leB a b = true → leB b c = true → leB a c = true := fun a b c h1 h2 => by simp only [leB, decide_eq_true_eq] at *; exact List.le_trans h1 h2
  have tot : ∀ a b : Nm, (leB a b || leB b a) = true := fun a b => by simp only [leB, Bool.or_eq_true, decide_eq_true_eq]; exact List.le_total a b
  have h1 : (srt K).Pairwise (fun a b => leB a b = true) := List.pairwise_mergeSort tr tot K
  have h2 : (srt K).Nodup := (List.mergeSort_perm K _).nodup_iff.2 h
  refine (h1.and h2).imp fun {a b} hab hba => ?_
  have h3 := hab.1
  simp only [leB, decide_eq_true_eq] at h3
  exact hab.2 (List.le_antisymm h3 hba)
set_option maxHeartbeats 8000000 in
theorem load_any (w : World) (hG : Good C K) : Calls Try.prog 15 #[.string (savedS C K)] w fun e w' => ∃ s mb n K', e = .returned (.tuple #[.pointer (some ⟨s, 0, none⟩), .int .i64 0]) ∧ Sh w w' s mb n C K' ∧ n ≤ 16 ∧ w.heap.size ≤ s ∧ w.heap.size ≤ mb ∧ Turn Nope w w' := by
  have HG := Lib.hid hG
  obtain ⟨L, hL⟩ : ∃ L, srt K = L := ⟨_, rfl⟩
  have HL : Hid (L.length ≤ 16 ∧ L.Nodup ∧ (∀ x, x ∈ L ↔ x ∈ K) ∧ (∀ x ∈ L, x.length ≤ 12 ∧ x ≠ []) ∧ L.Pairwise (fun x y => ¬ y ≤ x)) := by
    rw [← hL]
    exact ⟨by rw [srt_length]; exact hG.le, (List.mergeSort_perm K _).nodup_iff.2 hG.nd, srt_mem K, fun x hx => by have := hG.nm x ((srt_mem K x).1 hx); exact ⟨this.2, this.1⟩, srt_lt hG.nd⟩
  have hsv : savedS C K = bstr (saveBs C L) := by unfold savedS; rw [hL]
  rw [hsv]
  have hnb : nb (bstr (saveBs C L)) = num L.length ++ L.flatMap (goodBs C) := nb_bstr _ (save_lt C L)
  obtain ⟨t0, ht0⟩ : ∃ t0, bstr (saveBs C L) = t0 := ⟨_, rfl⟩
  rw [ht0] at hnb ⊢
  have hgl := goods_len hG L fun x hx => (HL.out.2.2.2.1 x hx).1
  have hz : t0.size ≤ 600 := by
    have h1 := num_le L.length (by have := HL.out.1; omega)
    have h2 := HL.out.1
    rw [← nb_length, hnb, List.length_append]
    omega
  obtain ⟨r0, hf, hr⟩ := uptoS L.length 16 (by have := HL.out.1; omega) (by decide) t0 _ hnb hz
  have HF := Lib.hid (And.intro hf hr)
  have HB0 := Lib.hid (Below.refl w.heap.size w)
  clear hG hL hsv hnb hz hf hr hgl ht0
  go_enter Try.func15, Try.ntmps15
  go_wp2_with fail
  refine (wire_Read.calls t0 t0 0 w _ HB0.out rfl).mono ?_
  rintro e w2 ⟨g, rfl, hi, hb, -⟩
  have HI2 := Lib.hid hi
  have HB2 := Lib.hid hb
  clear hi hb
  go_wp2_with fail
  refine (new_any w w2 (Turn.toNope HB2.out)).mono ?_
  rintro e w3 ⟨s, mb, rfl, hs, h1, h2, ht⟩
  have HS3 := Lib.hid hs
  have HNE : Hid (g ≠ s ∧ g ≠ mb) := by have := blk_lt HI2.out.1; exact ⟨by omega, by omega⟩
  have HLO : Hid (w.heap.size ≤ s ∧ w.heap.size ≤ mb) := ⟨hs.los, hs.lom⟩
  have HI3 : Hid (IsS67 w w3 g t0 0) := ⟨ht.blk HI2.out.1 fun h => h, HI2.out.2⟩
  have HB3 := Lib.hid (HB2.out.trans ((ht.nopeBelow).mono HB2.out.size))
  clear hs h1 h2 ht HI2 HB2
  go_wp2_with fail
  refine (wire_Reader_Upto.calls 2000 g t0 0 16 _ r0 0 w _ HI3.out HB3.out HF.out.1).mono ?_
  rintro e w4 ⟨rfl, hi, hb, hk⟩
  have HW0 : Hid (LoadW w w4 s mb g 0 L C r0) := by
    have h1 := HS3.out.turn (rd_turn HB3.out hb hk) (fun e => HNE.out.1 (show s = g from e).symm) (fun e => HNE.out.2 (show mb = g from e).symm)
    refine ⟨?_, hi, HF.out.2, hb, HNE.out⟩
    have e1 : cutC C L 0 = fun _ => 0 := by funext x; simp [cutC]
    rw [e1]
    exact h1
  clear hi hb hk HS3 HI3 HB3 HF
  go_wp2_with fail
  go_loopg [6, 7] L.length (fun kk v6 v7 wr => ∃ (i : Nat) (r : ByteArray) (lst : Nm), v7 = .int .i64 (kk : Int) ∧ v6 = .string ⟨lst.toArray⟩ ∧ Hid (kk + i = L.length ∧ ∀ x, L[i]? = some x → ¬ x ≤ lst) ∧ Hid (LoadW w wr s mb g i L C r))
  case atStart => exact ⟨0, r0, [], rfl, rfl, ⟨rfl, fun x hx e => (HL.out.2.2.2.1 x (List.mem_of_getElem? hx)).2 (List.le_nil.1 e)⟩, HW0.out⟩
  case round =>
    obtain ⟨i, r, lst, rfl, rfl, hk, hW⟩ := hrel
    clear HW0
    by_cases hlt : i < L.length
    · obtain ⟨m, rfl⟩ : ∃ m, gk = m + 1 := ⟨gk - 1, by have := hk.out.1; omega⟩
      have hkk := hk.out.1
      have b1 : decide ((0 : Int) < ((m + 1 : Nat) : Int)) = true := by rw [decide_eq_true_eq]; omega
      have b1n : decide (0 < m + 1) = true := by simp
      obtain ⟨x, hx⟩ : ∃ x, L[i]? = some x := ⟨_, List.getElem?_eq_getElem hlt⟩
      have HX := Lib.hid hx
      have HXL := Lib.hid (HL.out.2.2.2.1 x (List.mem_of_getElem? hx))
      obtain ⟨cn, hcn⟩ : ∃ cn : Nat, C x = (cn : Int) := ⟨(C x).toNat, by have := HG.out.lo x; omega⟩
      have HCN : Hid (C x = (cn : Int) ∧ (C x).toNat = cn ∧ cn ≤ 1099511627776 ∧ 1 ≤ cn) := by
        have h1 := HG.out.hi x
        have h2 := (HG.out.mem x).1 ((HL.out.2.2.1 x).1 (List.mem_of_getElem? hx))
        exact ⟨hcn, by omega, by omega, by omega⟩
      have hdrop : L.drop i = x :: L.drop (i + 1) := by
        obtain ⟨h1, rfl⟩ := List.getElem?_eq_some_iff.1 hx
        exact List.drop_eq_getElem_cons h1
      have hnb : nb r = num x.length ++ (x.map UInt8.toNat ++ (num cn ++ (L.drop (i + 1)).flatMap (goodBs C))) := by
        rw [hW.out.nbr, hdrop, List.flatMap_cons]
        simp only [goodBs, HCN.out.2.1, List.append_assoc]
      have hrz : r.size ≤ 600 := by
        have h1 := goods_len HG.out (L.drop i) fun y hy => (HL.out.2.2.2.1 y (List.mem_of_mem_drop hy)).1
        rw [← nb_length, hW.out.nbr]
        have h2 : (L.drop i).length ≤ 16 := by rw [List.length_drop]; have := HL.out.1; omega
        omega
      have hxs : ByteArray.size ⟨x.toArray⟩ = x.length := by simp [ByteArray.size]
      obtain ⟨r1, hf1, hr1⟩ := strS ⟨x.toArray⟩ 12 (by rw [hxs]; have := HXL.out.1; omega) (by decide) r ((num cn ++ (L.drop (i + 1)).flatMap (goodBs C))) (by rw [hxs, nb_arr]; exact hnb) hrz
      have hr1z : r1.size ≤ 600 := by
        have h1 := congrArg List.length hr1
        have h2 := congrArg List.length hnb
        rw [nb_length] at h1 h2
        simp only [List.length_append] at h1 h2
        omega
      obtain ⟨r2, hf2, hr2⟩ := uptoS cn 1099511627776 (by have := HCN.out.2.2.1; omega) (by decide) r1 _ hr1 hr1z
      have HF := Lib.hid (And.intro hf1 (And.intro hf2 hr2))
      have HLST := Lib.hid (hk.out.2 x hx)
      have HLT := Lib.hid hlt
      clear hx hcn hdrop hnb hrz hf1 hr1 hr1z hf2 hr2 hlt hkk hxs
      go_wp2_with fail
      refine (wire_Reader_Err.calls g r 0 0 r 0 w _ hW.out.rd hW.out.bl rfl).mono ?_
      rintro e w5 ⟨rfl, hi5, hb5, hk5⟩
      have HW5 : Hid (LoadW w w5 s mb g i L C r) := ⟨hW.out.read hi5 hb5 hk5, hi5, hW.out.nbr, hb5, hW.out.ne⟩
      clear hi5 hb5 hk5
      go_wp2_with fail
      refine (wire_Reader_Str.calls 2000 g r 0 12 _ r1 0 w _ HW5.out.rd HW5.out.bl HF.out.1).mono ?_
      rintro e w6 ⟨rfl, hi6, hb6, hk6⟩
      have HS6 := Lib.hid (And.intro (HW5.out.read hi6 hb6 hk6) (And.intro hi6 hb6))
      clear hi6 hb6 hk6
      go_wp2_with fail
      refine (wire_Reader_Upto.calls 2000 g r1 0 1099511627776 _ r2 0 w _ HS6.out.2.1 HS6.out.2.2 HF.out.2.1).mono ?_
      rintro e w7 ⟨rfl, hi7, hb7, hk7⟩
      have HS7 := Lib.hid (And.intro (HS6.out.1.turn (rd_turn HS6.out.2.2 hb7 hk7) (fun e => HW5.out.ne.1 (show s = g from e).symm) (fun e => HW5.out.ne.2 (show mb = g from e).symm)) (And.intro hi7 hb7))
      clear hi7 hb7 hk7 HS6
      go_wp2_with fail
      refine (wire_Reader_Err.calls g r2 0 0 r2 0 w _ HS7.out.2.1 HS7.out.2.2 rfl).mono ?_
      rintro e w8 ⟨rfl, hi8, hb8, hk8⟩
      have HS8 := Lib.hid (And.intro (HS7.out.1.turn (rd_turn HS7.out.2.2 hb8 hk8) (fun e => HW5.out.ne.1 (show s = g from e).symm) (fun e => HW5.out.ne.2 (show mb = g from e).symm)) (And.intro hi8 hb8))
      clear hi8 hb8 hk8 HS7
      have hc1 : Op.bytesLess x lst = false := by
        rw [Go.Proofs.bytesLess_eq, decide_eq_false_iff_not]
        exact fun h => HLST.out (List.le_of_lt h)
      have hc2 : (x == lst) = false := by
        rw [beq_eq_false_iff_ne]
        rintro rfl
        exact HLST.out (List.le_refl _)
      have hc3 : decide ((cn : Int) < 1) = false := by have := HCN.out.2.2.2; simp; omega
      have hc3n : decide (cn < 1) = false := by have := HCN.out.2.2.2; simp; omega
      obtain ⟨D, hD⟩ := HS8.out.1.map
      have HD := Lib.hid hD
      obtain ⟨v0, st, w9, w10, hent, hst, hown, hg10, hg9⟩ := hD.entry (x := ⟨x.toArray⟩) (v := (cn : Int)) (by show x.toArray.size ≤ maxLen; have := HXL.out.1; simp; unfold maxLen; omega) (by have := HL.out.1; have := HLT.out; unfold maxLen; omega) (wf_small (by omega) (by have := HCN.out.2.2.1; omega))
      have HO := Lib.hid (And.intro hown (And.intro hg10 hg9))
      have c0 := HS8.out.1.cell
      have hs1 : IntKind.i64.wrap (m : Int) = (m : Int) := IntWalk.i64_in _ ⟨by omega, by have := HL.out.1; have := hk.out.1; omega⟩
      have hs2 : wrap64 (m : Int) = (m : Int) := IntWalk.wrap64_in _ ⟨by omega, by have := HL.out.1; have := hk.out.1; omega⟩
      have HS1 := Lib.hid (And.intro hs1 hs2)
      clear hD hown hg10 hg9 hs1 hs2
      go_wp2_with fail
      clear hent hst c0 hc1 hc2 hc3 hc3n b1 b1n
      have HP : Hid (LoadW w w10 s mb g (i + 1) L C r2) := by
        have hxn : x ∉ L.take i := by
          intro hx
          obtain ⟨k, hk2⟩ := List.getElem?_of_mem hx
          have hki : k < i := by
            have := (List.getElem?_eq_some_iff.1 hk2).1
            rw [List.length_take] at this; omega
          rw [List.getElem?_take_of_lt hki] at hk2
          obtain ⟨h1, e1⟩ := List.getElem?_eq_some_iff.1 hk2
          obtain ⟨h2, e2⟩ := List.getElem?_eq_some_iff.1 HX.out
          exact (List.pairwise_iff_getElem.1 HL.out.2.1 k i h1 h2 hki) (by rw [e1, e2])
        have htk : L.take (i + 1) = L.take i ++ [x] := by rw [List.take_add_one, HX.out]; rfl
        have hown := HO.out.1
        rw [show nmOf ⟨x.toArray⟩ = x by unfold nmOf; simp] at hown
        have h1 := HD.out.put (K' := (L.take (i + 1)).reverse) (by have := HCN.out.2.2.2; omega : (cn : Int) ≠ 0) hown (by rw [if_neg (by rw [List.mem_reverse]; exact hxn), htk, List.reverse_append]; rfl)
        have e1 : (fun y => if y = x then (cn : Int) else cutC C L i y) = cutC C L (i + 1) := by
          funext y
          unfold cutC
          rw [htk]
          by_cases hy : y = x
          · rw [if_pos hy, if_pos (by simp [hy]), hy, HCN.out.1]
          · rw [if_neg hy]
            by_cases hy2 : y ∈ L.take i
            · rw [if_pos hy2, if_pos (by simp [hy2])]
            · rw [if_neg hy2, if_neg (by simp [hy2, hy])]
        rw [e1] at h1
        have hs := HS8.out.1
        refine ⟨⟨blk_grown hs.hs HO.out.2.1 (fun e => by injection e with e; exact hs.ne e.symm), hs.los, hs.lom, ⟨_, h1⟩, cut_good HG.out HL.out.2.1 HL.out.2.2.1 HL.out.1 (i + 1)⟩, ⟨blk_grown HS8.out.2.1.1 HO.out.2.1 (fun e => by injection e with e; exact HW5.out.ne.2 e.symm), HS8.out.2.1.2⟩, HF.out.2.2, ?_, HW5.out.ne⟩
        exact ((Turn.toNope HS8.out.2.2).grown HO.out.2.1 fun k hk => .inr (by injection hk with hk; rw [← hk]; exact hs.lom)).nopeBelow
      have HNX : Hid (∀ y, L[i + 1]? = some y → ¬ y ≤ x) := fun y hy => by
        obtain ⟨h1, e1⟩ := List.getElem?_eq_some_iff.1 HX.out
        obtain ⟨h2, e2⟩ := List.getElem?_eq_some_iff.1 hy
        have := List.pairwise_iff_getElem.1 HL.out.2.2.2.2 i (i + 1) h1 h2 (Nat.lt_succ_self i)
        rw [e1, e2] at this
        exact this
      have hs1 := HS1.out.1
      have hs2 := HS1.out.2
      go_wp2_with fail
      go_roundg m
      case measure => omega
      case rel => exact ⟨i + 1, r2, x, by go_num, rfl, ⟨by have := hk.out.1; show _ = _; omega, HNX.out⟩, HP.out⟩
    · obtain rfl : gk = 0 := by have := hk.out.1; omega
      have hil : L.length ≤ i := by omega
      have hr0 : r = ⟨#[]⟩ := nb_nil (by rw [hW.out.nbr, List.drop_eq_nil_of_le hil]; rfl)
      have HE : Hid (wire_Reader_End.f r 0 = some (0, r, 0)) := by show _ = _; rw [hr0, wire_Reader_End.f, if_pos (by rw [ByteArray.toList_eq])]
      have HCC : Hid (cutC C L i = C) := cut_all HG.out HL.out.2.2.1 hil
      have HIL : Hid (i ≤ 16) := by have := hk.out.1; have := HL.out.1; exact (by omega : i ≤ 16)
      clear hlt hil hr0
      go_wp2_with fail
      refine (wire_Reader_End.calls g r 0 0 r 0 w _ hW.out.rd hW.out.bl HE.out).mono ?_
      rintro e w5 ⟨rfl, hi5, hb5, hk5⟩
      have HS5 : Hid (Sh w w5 s mb i C (L.take i).reverse ∧ Below w.heap.size w w5) := by
        have h1 := hW.out.read hi5 hb5 hk5
        rw [HCC.out] at h1
        exact ⟨h1, hb5⟩
      clear hi5 hb5 hk5
      go_wp2_with fail
      go_ret2
      exact ⟨s, mb, i, _, rfl, HS5.out.1, HIL.out, HLO.out.1, HLO.out.2, Turn.toNope HS5.out.2⟩
end Go.Proofs.Ytianagpneoopeaa
