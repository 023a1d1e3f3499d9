/- Load, walked: what was saved is there again. -/
import Derived.Test.YtlalbmgopbcplaaTk
import Derived.Test.YtlalbmgopbcplaaSz
import Derived.Test.YtlalbmgopbcplaaSdm
set_option maxRecDepth 16000
set_option linter.unusedVariables false
set_option linter.unusedSimpArgs false
namespace Go.Proofs.Ytlalbmgopbcplaa
open Go.RowKit Go.Maps PLedgerMoves Go.Proofs.YtlalbmgopbcplaaW.PrintWords
variable {C : Nm → Int} {K L : List Nm} {w0 w w' : World} {s mb n : Nat} {D : Dm} {o : Op4}
theorem rd_turn {g : Nat} (h1 : Below w0.heap.size w0 w) (h2 : Below w0.heap.size w0 w') (k : KeepBut w w' g none) : Turn (At g) w w' :=
  ⟨h2.os.trans h1.os.symm, h2.tape.trans h1.tape.symm, h2.output.trans h1.output.symm, k.1, fun i hi hn => k.2 i hi hn (by simp)⟩
/-- A book's accounts, those among the first i names, and the house. -/
def ldC (C : Nm → Int) (L : List Nm) (i : Nat) : Nm → Int := fun x => if x = [] then -(sumK C (L.take i)) else if x ∈ L.take i then C x else 0
def ldK (L : List Nm) (i : Nat) : List Nm := (L.take i).reverse ++ [[]]
/-- The facts of a book's names. -/
structure Nms (C : Nm → Int) (L : List Nm) : Prop where
  le : L.length ≤ 16
  nd : L.Nodup
  nm : ∀ x ∈ L, x.length ≤ 12 ∧ x ≠ []
  lt : L.Pairwise (fun x y => ¬ y ≤ x)
  lo : ∀ x ∈ L, 0 ≤ C x
  hi : ∀ x ∈ L, C x ≤ 1099511627776
theorem sum_range (h : Nms C L) : ∀ M : List Nm, (∀ x ∈ M, x ∈ L) → 0 ≤ sumK C M ∧ sumK C M ≤ (M.length : Int) * 1099511627776
  | [], _ => ⟨Int.le_refl _, Int.le_refl _⟩
  | x :: M, hM => by
    have h1 := sum_range h M fun y hy => hM y (List.mem_cons_of_mem _ hy)
    have h2 := h.lo x (hM x List.mem_cons_self)
    have h3 := h.hi x (hM x List.mem_cons_self)
    rw [sum_cons, List.length_cons]
    omega
theorem sum_app (C : Nm → Int) : ∀ A B : List Nm, sumK C (A ++ B) = sumK C A + sumK C B
  | [], B => by simp [sumK]
  | x :: A, B => by rw [List.cons_append, sum_cons, sum_cons, sum_app C A B]; omega
theorem take_sum (h : Nms C L) (i : Nat) (hi : i ≤ L.length) : 0 ≤ sumK C (L.take i) ∧ sumK C (L.take i) ≤ (i : Int) * 1099511627776 := by
  have := sum_range h (L.take i) fun x hx => List.mem_of_mem_take hx
  rw [List.length_take, Nat.min_eq_left hi] at this
  exact this
theorem ld_house (C : Nm → Int) (L : List Nm) (i : Nat) : ldC C L i [] = -(sumK C (L.take i)) := by unfold ldC; rw [if_pos rfl]
theorem ldK_mem (L : List Nm) (i : Nat) (x : Nm) : x ∈ ldK L i ↔ x ∈ L.take i ∨ x = [] := by unfold ldK; simp
theorem ld_book (h : Nms C L) (i : Nat) : Book (ldC C L i) (ldK L i) := by
  have hin : ∀ x, x ∈ L.take i → x ∈ L := fun x hx => List.mem_of_mem_take hx
  have hne : ([] : Nm) ∉ L.take i := fun e => (h.nm _ (hin _ e)).2 rfl
  refine ⟨?_, fun x hx => ?_, (ldK_mem _ _ _).2 (.inr rfl), fun x hx => ?_, fun x hx => ?_, fun x hx => ?_, ?_⟩
  · unfold ldK
    rw [List.nodup_append]
    refine ⟨List.pairwise_reverse.2 ((h.nd.sublist (List.take_sublist _ _)).imp fun {a b} h e => h e.symm), by simp, fun a ha b hb e => ?_⟩
    rw [List.mem_singleton] at hb
    rw [List.mem_reverse, e, hb] at ha
    exact hne ha
  · rw [ldK_mem] at hx
    unfold ldC
    rw [if_neg (fun e => hx (.inr e)), if_neg (fun e => hx (.inl e))]
  · unfold ldC
    rw [if_neg hx]
    split
    · rename_i hx; exact h.lo x (hin x hx)
    · exact Int.le_refl _
  · unfold ldC
    rw [if_neg hx]
    split
    · rename_i hx; exact h.hi x (hin x hx)
    · decide
  · rcases (ldK_mem _ _ _).1 hx with hx | rfl
    · exact (h.nm x (hin x hx)).1
    · exact Nat.zero_le _
  · unfold ldK
    rw [List.length_append, List.length_reverse, List.length_take]
    have := h.le
    simp only [List.length_cons, List.length_nil]
    omega
theorem ld_step (h : Nms C L) {i : Nat} {x : Nm} (hx : L[i]? = some x) :
    (fun y => if y = [] then (if ([] : Nm) = x then C x else ldC C L i []) - C x else if y = x then C x else ldC C L i y) = ldC C L (i + 1) ∧ ldK L (i + 1) = x :: ldK L i ∧ x ∉ ldK L i ∧ x ≠ [] := by
  have htk : L.take (i + 1) = L.take i ++ [x] := by rw [List.take_add_one, hx]; rfl
  have hxL := List.mem_of_getElem? hx
  have hne := (h.nm x hxL).2
  have hxn : x ∉ L.take i := by
    intro hx2
    obtain ⟨k, hk2⟩ := List.getElem?_of_mem hx2
    have hki : k < i := by
      have := (List.getElem?_eq_some_iff.1 hk2).1
      rw [List.length_take] at this; omega
    rw [List.getElem?_take_of_lt hki] at hk2
    obtain ⟨h1, e1⟩ := List.getElem?_eq_some_iff.1 hk2
    obtain ⟨h2, e2⟩ := List.getElem?_eq_some_iff.1 hx
    exact (List.pairwise_iff_getElem.1 h.nd k i h1 h2 hki) (by rw [e1, e2])
  refine ⟨?_, ?_, fun e => ?_, hne⟩
  · funext y
    show (if y = [] then (if ([] : Nm) = x then C x else ldC C L i []) - C x else if y = x then C x else ldC C L i y) = _
    by_cases hy : y = []
    · rw [if_pos hy, if_neg (fun e => hne e.symm), hy, ld_house, ld_house, htk, sum_app, sum_cons]
      simp only [sumK, List.map_nil, List.sum_nil]
      omega
    · rw [if_neg hy]
      unfold ldC
      rw [htk, if_neg hy, if_neg hy]
      by_cases hyx : y = x
      · rw [if_pos hyx, if_pos (by simp [hyx]), hyx]
      · rw [if_neg hyx]
        by_cases hy2 : y ∈ L.take i
        · rw [if_pos hy2, if_pos (by simp [hy2])]
        · rw [if_neg hy2, if_neg (by simp [hy2, hyx])]
  · unfold ldK; rw [htk, List.reverse_append]; rfl
  · rcases (ldK_mem _ _ _).1 e with e | e
    · exact hxn e
    · exact hne e
theorem ld_all (hB : Book C K) (hs : sumK C K = 0) {i : Nat} (hi : (accs K).length ≤ i) : ldC C (accs K) i = C := by
  have hp : K.Perm ([] :: accs K) := by rw [← srt_house hB.house]; exact (List.mergeSort_perm K _).symm
  have h1 := sum_perm C hp
  rw [hs, sum_cons] at h1
  funext x
  unfold ldC
  rw [List.take_of_length_le hi]
  split
  · rename_i e; rw [e]; omega
  · rename_i e
    split
    · rfl
    · rename_i hx
      by_cases h0 : C x = 0
      · exact h0.symm
      · exact absurd ((accs_mem hB.nd hB.house x).2 ⟨Classical.byContradiction fun e2 => h0 (hB.out x e2), e⟩) hx
theorem ld_perm (hB : Book C K) {i : Nat} (hi : (accs K).length ≤ i) : (ldK (accs K) i).Perm K := by
  have hp : K.Perm ([] :: accs K) := by rw [← srt_house hB.house]; exact (List.mergeSort_perm K _).symm
  unfold ldK
  rw [List.take_of_length_le hi]
  refine List.Perm.trans ?_ hp.symm
  exact ((accs K).reverse_perm.append (List.Perm.refl _)).trans (List.perm_append_comm)
theorem good_len2 {C : Nm → Int} {x : Nm} (hx : x.length ≤ 12) (hc : C x ≤ 1099511627776) : (goodBs C x).length ≤ 32 := by
  unfold goodBs
  have h1 := num_le x.length (by omega)
  have h2 := num_le (C x).toNat (by omega)
  simp only [List.length_append, List.length_map]
  omega
theorem goods_len (h : Nms C L) : ∀ M : List Nm, (∀ x ∈ M, x ∈ L) → (M.flatMap (goodBs C)).length ≤ 32 * M.length
  | [], _ => by simp
  | x :: M, hM => by
    have h1 := good_len2 (C := C) (h.nm x (hM x List.mem_cons_self)).1 (h.hi x (hM x List.mem_cons_self))
    have h2 := goods_len h M fun y hy => hM y (List.mem_cons_of_mem _ hy)
    rw [List.flatMap_cons, List.length_append, List.length_cons]; omega
theorem srt_lt (h : K.Nodup) : (srt K).Pairwise (fun x y => ¬ y ≤ x) := by
  have tr : ∀ a b c : Nm, leB a b = true → leB b c = true → leB a c = true := fun a b c h1 h2 => by simp only [leB, decide_eq_true_eq] at *; exact List.le_trans h1 h2
  have tot : ∀ a b : Nm, (leB a b || leB b a) = true := fun a b => by simp only [leB, Bool.or_eq_true, decide_eq_true_eq]; exact List.le_total a b
  have h1 : (srt K).Pairwise (fun a b => leB a b = true) := List.pairwise_mergeSort tr tot K
  have h2 : (srt K).Nodup := (List.mergeSort_perm K _).nodup_iff.2 h
  refine (h1.and h2).imp fun {a b} hab hba => ?_
  have h3 := hab.1
  simp only [leB, decide_eq_true_eq] at h3
  exact hab.2 (List.le_antisymm h3 hba)
theorem nms_of (h : Book C K) : Nms C (accs K) := by
  have h1 := srt_house h.house
  have h2 := srt_lt h.nd
  have h3 : (srt K).Nodup := (List.mergeSort_perm K _).nodup_iff.2 h.nd
  rw [h1] at h2 h3
  have hm := accs_mem h.nd h.house
  refine ⟨by have := accs_length h.house; have := h.le; omega, (List.nodup_cons.1 h3).2, fun x hx => ⟨h.nm x ((hm x).1 hx).1, ((hm x).1 hx).2⟩, (List.pairwise_cons.1 h2).2, fun x hx => h.lo x ((hm x).1 hx).2, fun x hx => h.hi x ((hm x).1 hx).2⟩
/-- In the middle of the accounts. -/
structure LoadW (w wr : World) (s mb g i : Nat) (L : List Nm) (C : Nm → Int) (r : ByteArray) : Prop where
  sh : Sh w wr s mb (1 + 2 * i) (ldC C L i) (ldK L i)
  rd : IsS68 w wr g r 0
  nbr : nb r = (L.drop i).flatMap (goodBs C)
  bl : Below w.heap.size w wr
  ne : g ≠ s ∧ g ≠ mb
theorem LoadW.read {wr w2 : World} {g i : Nat} {r r2 : ByteArray} (h : LoadW w wr s mb g i L C r) (hi : IsS68 w w2 g r2 0) (hb : Below w.heap.size w w2) (hk : KeepBut wr w2 g none) : Sh w w2 s mb (1 + 2 * i) (ldC C L i) (ldK L i) :=
  h.sh.turn (rd_turn h.bl hb hk) (fun e => h.ne.1 (show s = g from e).symm) (fun e => h.ne.2 (show mb = g from e).symm)
set_option maxHeartbeats 8000000 in
theorem load_any (w : World) (hG : Book C K) (hs0 : sumK C K = 0) : Calls Try.prog 14 #[.string (savedS C K)] w fun e w' => ∃ s mb n K', e = .returned (.tuple #[.pointer (some ⟨s, 0, none⟩), .int .i64 0]) ∧ Sh w w' s mb n C K' ∧ K'.Perm K ∧ n ≤ 40 ∧ w.heap.size ≤ s ∧ w.heap.size ≤ mb ∧ Turn Nope w w' := by
  have HFIN : Hid (∀ i, (accs K).length ≤ i → ldC C (accs K) i = C ∧ (ldK (accs K) i).Perm K) := fun i hi => ⟨ld_all hG hs0 hi, ld_perm hG hi⟩
  obtain ⟨L, hL⟩ : ∃ L, accs K = L := ⟨_, rfl⟩
  have HL : Hid (Nms C L) := by rw [← hL]; exact nms_of hG
  have hsv : savedS C K = bstr (saveBs C L) := by unfold savedS; rw [hL]
  rw [hL] at HFIN
  rw [hsv]
  have hnb : nb (bstr (saveBs C L)) = num L.length ++ L.flatMap (goodBs C) := nb_bstr _ (save_lt C L)
  obtain ⟨t0, ht0⟩ : ∃ t0, bstr (saveBs C L) = t0 := ⟨_, rfl⟩
  rw [ht0] at hnb ⊢
  have hgl := goods_len HL.out L fun x hx => hx
  have hz : t0.size ≤ 600 := by
    have h1 := num_le L.length (by have := HL.out.le; omega)
    have h2 := HL.out.le
    rw [← nb_length, hnb, List.length_append]
    omega
  obtain ⟨r0, hf, hr⟩ := uptoS L.length 16 (by have := HL.out.le; omega) (by decide) t0 _ hnb hz
  have HF := Lib.hid (And.intro hf hr)
  have HB0 := Lib.hid (Below.refl w.heap.size w)
  clear hG hs0 hL hsv hnb hz hf hr hgl ht0
  go_enter Try.func14, Try.ntmps14
  go_wp2_with fail
  refine (wire_Read.calls t0 t0 0 w _ HB0.out rfl).mono ?_
  rintro e w2 ⟨g, rfl, hi, hb, -⟩
  have HI2 := Lib.hid hi
  have HB2 := Lib.hid hb
  clear hi hb
  go_wp2_with fail
  refine (new_any w w2 (Turn.toNope HB2.out)).mono ?_
  rintro e w3 ⟨s, mb, rfl, hs, h1, h2, ht⟩
  have HS3 := Lib.hid hs
  have HNE : Hid (g ≠ s ∧ g ≠ mb) := by have := blk_lt HI2.out.1; exact ⟨by omega, by omega⟩
  have HLO : Hid (w.heap.size ≤ s ∧ w.heap.size ≤ mb) := ⟨hs.los, hs.lom⟩
  have HI3 : Hid (IsS68 w w3 g t0 0) := ⟨ht.blk HI2.out.1 fun h => h, HI2.out.2⟩
  have HB3 := Lib.hid (HB2.out.trans ((ht.nopeBelow).mono HB2.out.size))
  clear hs h1 h2 ht HI2 HB2
  go_wp2_with fail
  refine (wire_Reader_Upto.calls 2000 g t0 0 16 _ r0 0 w _ HI3.out HB3.out HF.out.1).mono ?_
  rintro e w4 ⟨rfl, hi, hb, hk⟩
  have HW0 : Hid (LoadW w w4 s mb g 0 L C r0) := by
    have h1 := HS3.out.turn (rd_turn HB3.out hb hk) (fun e => HNE.out.1 (show s = g from e).symm) (fun e => HNE.out.2 (show mb = g from e).symm)
    refine ⟨?_, hi, HF.out.2, hb, HNE.out⟩
    have e1 : ldC C L 0 = fun _ => 0 := by funext x; unfold ldC; split <;> simp [sumK]
    rw [e1]
    exact h1
  clear hi hb hk HS3 HI3 HB3 HF
  go_wp2_with fail
  go_loopg [6, 7] L.length (fun kk v6 v7 wr => ∃ (i : Nat) (r : ByteArray) (lst : Nm), v7 = .int .i64 (kk : Int) ∧ v6 = .string ⟨lst.toArray⟩ ∧ Hid (kk + i = L.length ∧ ∀ x, L[i]? = some x → ¬ x ≤ lst) ∧ Hid (LoadW w wr s mb g i L C r))
  case atStart => exact ⟨0, r0, [], rfl, rfl, ⟨rfl, fun x hx e => (HL.out.nm x (List.mem_of_getElem? hx)).2 (List.le_nil.1 e)⟩, HW0.out⟩
  case round =>
    obtain ⟨i, r, lst, rfl, rfl, hk, hW⟩ := hrel
    clear HW0
    by_cases hlt : i < L.length
    · obtain ⟨m, rfl⟩ : ∃ m, gk = m + 1 := ⟨gk - 1, by have := hk.out.1; omega⟩
      have hkk := hk.out.1
      have b1 : decide ((0 : Int) < ((m + 1 : Nat) : Int)) = true := by rw [decide_eq_true_eq]; omega
      have b1n : decide (0 < m + 1) = true := by simp
      obtain ⟨x, hx⟩ : ∃ x, L[i]? = some x := ⟨_, List.getElem?_eq_getElem hlt⟩
      have HX := Lib.hid hx
      have HXL := Lib.hid (HL.out.nm x (List.mem_of_getElem? hx))
      obtain ⟨cn, hcn⟩ : ∃ cn : Nat, C x = (cn : Int) := ⟨(C x).toNat, by have := HL.out.lo x (List.mem_of_getElem? hx); omega⟩
      have HCN : Hid (C x = (cn : Int) ∧ (C x).toNat = cn ∧ cn ≤ 1099511627776) := by
        have h1 := HL.out.hi x (List.mem_of_getElem? hx)
        exact ⟨hcn, by omega, by omega⟩
      have hdrop : L.drop i = x :: L.drop (i + 1) := by
        obtain ⟨h1, rfl⟩ := List.getElem?_eq_some_iff.1 hx
        exact List.drop_eq_getElem_cons h1
      have hnb : nb r = num x.length ++ (x.map UInt8.toNat ++ (num cn ++ (L.drop (i + 1)).flatMap (goodBs C))) := by
        rw [hW.out.nbr, hdrop, List.flatMap_cons]
        simp only [goodBs, HCN.out.2.1, List.append_assoc]
      have hrz : r.size ≤ 600 := by
        have h1 := goods_len HL.out (L.drop i) fun y hy => List.mem_of_mem_drop hy
        rw [← nb_length, hW.out.nbr]
        have h2 : (L.drop i).length ≤ 16 := by rw [List.length_drop]; have := HL.out.le; omega
        omega
      have hxs : ByteArray.size ⟨x.toArray⟩ = x.length := by simp [ByteArray.size]
      obtain ⟨r1, hf1, hr1⟩ := strS ⟨x.toArray⟩ 12 (by rw [hxs]; have := HXL.out.1; omega) (by decide) r ((num cn ++ (L.drop (i + 1)).flatMap (goodBs C))) (by rw [hxs, nb_arr]; exact hnb) hrz
      have hr1z : r1.size ≤ 600 := by
        have h1 := congrArg List.length hr1
        have h2 := congrArg List.length hnb
        rw [nb_length] at h1 h2
        simp only [List.length_append] at h1 h2
        omega
      obtain ⟨r2, hf2, hr2⟩ := uptoS cn 1099511627776 (by have := HCN.out.2.2; omega) (by decide) r1 _ hr1 hr1z
      have HF := Lib.hid (And.intro hf1 (And.intro hf2 hr2))
      have HLST := Lib.hid (hk.out.2 x hx)
      have HLT := Lib.hid hlt
      clear hx hcn hdrop hnb hrz hf1 hr1 hr1z hf2 hr2 hlt hkk hxs
      go_wp2_with fail
      refine (wire_Reader_Err.calls g r 0 0 r 0 w _ hW.out.rd hW.out.bl rfl).mono ?_
      rintro e w5 ⟨rfl, hi5, hb5, hk5⟩
      have HW5 : Hid (LoadW w w5 s mb g i L C r) := ⟨hW.out.read hi5 hb5 hk5, hi5, hW.out.nbr, hb5, hW.out.ne⟩
      clear hi5 hb5 hk5
      go_wp2_with fail
      refine (wire_Reader_Str.calls 2000 g r 0 12 _ r1 0 w _ HW5.out.rd HW5.out.bl HF.out.1).mono ?_
      rintro e w6 ⟨rfl, hi6, hb6, hk6⟩
      have HS6 := Lib.hid (And.intro (HW5.out.read hi6 hb6 hk6) (And.intro hi6 hb6))
      clear hi6 hb6 hk6
      go_wp2_with fail
      refine (wire_Reader_Upto.calls 2000 g r1 0 1099511627776 _ r2 0 w _ HS6.out.2.1 HS6.out.2.2 HF.out.2.1).mono ?_
      rintro e w7 ⟨rfl, hi7, hb7, hk7⟩
      have HS7 := Lib.hid (And.intro (HS6.out.1.turn (rd_turn HS6.out.2.2 hb7 hk7) (fun e => HW5.out.ne.1 (show s = g from e).symm) (fun e => HW5.out.ne.2 (show mb = g from e).symm)) (And.intro hi7 hb7))
      clear hi7 hb7 hk7 HS6
      go_wp2_with fail
      refine (wire_Reader_Err.calls g r2 0 0 r2 0 w _ HS7.out.2.1 HS7.out.2.2 rfl).mono ?_
      rintro e w8 ⟨rfl, hi8, hb8, hk8⟩
      have HS8 := Lib.hid (And.intro (HS7.out.1.turn (rd_turn HS7.out.2.2 hb8 hk8) (fun e => HW5.out.ne.1 (show s = g from e).symm) (fun e => HW5.out.ne.2 (show mb = g from e).symm)) (And.intro hi8 hb8))
      clear hi8 hb8 hk8 HS7
      have hc1 : Op.bytesLess x lst = false := by
        rw [Go.Proofs.bytesLess_eq, decide_eq_false_iff_not]
        exact fun h => HLST.out (List.le_of_lt h)
      have hc2 : (x == lst) = false := by
        rw [beq_eq_false_iff_ne]
        rintro rfl
        exact HLST.out (List.le_refl _)
      obtain ⟨D, hD⟩ := HS8.out.1.map
      have HD := Lib.hid hD
      obtain ⟨v0, st, w9, w10, hent, hst, hown, hg10, hg9⟩ := hD.entry (x := ⟨x.toArray⟩) (v := (cn : Int)) (by show x.toArray.size ≤ maxLen; have := HXL.out.1; simp; unfold maxLen; omega) (by have := HL.out.le; have := HLT.out; unfold maxLen; omega) (wf_small (by omega) (by have := HCN.out.2.2; omega))
      have hxn := (ld_step HL.out HX.out).2.2.1
      have hC1 := hD.put (K' := x :: ldK L i) (x := x) (v := (cn : Int)) (by rw [show nmOf ⟨x.toArray⟩ = x by unfold nmOf; simp] at hown; exact hown) (by rw [if_neg hxn])
      have hlk := hC1.look1 (x := ⟨#[]⟩) (by decide)
      obtain ⟨h0, hh0⟩ : ∃ h0, (if (⟨#[]⟩ : ByteArray).data.toList = x then (cn : Int) else ldC C L i (⟨#[]⟩ : ByteArray).data.toList) = h0 := ⟨_, rfl⟩
      have HH0 : Hid (h0 = -(sumK C (L.take i))) := by
        rw [← hh0]
        show (if ([] : Nm) = x then _ else _) = _
        rw [if_neg (fun e => (ld_step HL.out HX.out).2.2.2 e.symm), ld_house]
      have HRS := Lib.hid (take_sum HL.out i (Nat.le_of_lt HLT.out))
      rw [hh0] at hlk
      have hw0 : wrap64 (h0 - (cn : Int)) = h0 - (cn : Int) := IntWalk.wrap64_in _ ⟨by have := HH0.out; have := HRS.out; have := HCN.out; have := HL.out.le; have := HLT.out; omega, by have := HH0.out; have := HRS.out; omega⟩
      have hw1 : IntKind.i64.wrap (h0 - (cn : Int)) = h0 - (cn : Int) := IntWalk.i64_in _ ⟨by have := HH0.out; have := HRS.out; have := HCN.out; have := HL.out.le; have := HLT.out; omega, by have := HH0.out; have := HRS.out; omega⟩
      obtain ⟨w11, hupd, hown2, hg11⟩ := hC1.own.update law9 Try.underlying44 (by have := HL.out.le; have := HLT.out; unfold maxLen; omega) (Go.WideMaps.keyOf_string_mk Try.underlying9 (s := ⟨#[]⟩) (by decide)) (val := .int .i64 (h0 - (cn : Int))) (plainElem_int Try.underlying3 (wf_small (by have := HH0.out; have := HRS.out; have := HCN.out; have := HL.out.le; have := HLT.out; omega) (by have := HH0.out; have := HRS.out; omega)))
      have hC2 := hC1.put (K' := x :: ldK L i) hown2 (by rw [if_pos (List.mem_cons_of_mem _ ((ldK_mem _ _ _).2 (.inr rfl)))])
      have HO := Lib.hid (And.intro hC2 (And.intro hg10 hg11))
      have c0 := HS8.out.1.cell
      have hs1 : IntKind.i64.wrap (m : Int) = (m : Int) := IntWalk.i64_in _ ⟨by omega, by have := HL.out.le; have := hk.out.1; omega⟩
      have hs2 : wrap64 (m : Int) = (m : Int) := IntWalk.wrap64_in _ ⟨by omega, by have := HL.out.le; have := hk.out.1; omega⟩
      have HS1 := Lib.hid (And.intro hs1 hs2)
      have c1 := blk_cell (blk_grown HS8.out.1.hs hg10 (fun e => by injection e with e; exact HS8.out.1.ne e.symm)) 0
      simp only [List.getElem?_toArray, List.getElem?_cons_zero] at c1
      clear hD hown hg10 hg9 hs1 hs2 hC1 hC2 hown2 hg11 hxn hh0
      go_wp2_with fail
      clear hent hst c0 c1 hc1 hc2 b1 b1n hlk hupd hw0 hw1
      have HP : Hid (LoadW w w11 s mb g (i + 1) L C r2) := by
        have hs := HS8.out.1
        have hst := ld_step HL.out HX.out
        have hC2 := HO.out.1
        have hne : (some mb : Option Nat) ≠ some s := fun e => by injection e with e; exact hs.ne e.symm
        have hne2 : (some mb : Option Nat) ≠ some g := fun e => by injection e with e; exact HW5.out.ne.2 e.symm
        have e1 : (fun y => if y = (⟨#[]⟩ : ByteArray).data.toList then h0 - (cn : Int) else (fun y => if y = x then (cn : Int) else ldC C L i y) y) = ldC C L (i + 1) := by
          rw [← hst.1]
          funext y
          show (if y = ([] : Nm) then h0 - (cn : Int) else if y = x then (cn : Int) else ldC C L i y) = _
          rw [HH0.out, HCN.out.1]
          show _ = (if y = [] then (if ([] : Nm) = x then (cn : Int) else ldC C L i []) - (cn : Int) else if y = x then (cn : Int) else ldC C L i y)
          rw [if_neg (fun e => hst.2.2.2 (show ([] : Nm) = x from e).symm), ld_house]
        rw [e1, ← hst.2.1] at hC2
        refine ⟨⟨blk_grown (blk_grown hs.hs HO.out.2.1 hne) HO.out.2.2 hne, hs.los, hs.lom, ⟨_, hC2.mono (by omega)⟩, ld_book HL.out (i + 1), ?_⟩, ⟨blk_grown (blk_grown HS8.out.2.1.1 HO.out.2.1 hne2) HO.out.2.2 hne2, HS8.out.2.1.2⟩, HF.out.2.2, ?_, HW5.out.ne⟩
        · rw [ld_house]
          have := take_sum HL.out (i + 1) HLT.out
          omega
        · exact (((Turn.toNope HS8.out.2.2).grown HO.out.2.1 fun k hk => .inr (by injection hk with hk; rw [← hk]; exact hs.lom)).grown HO.out.2.2 fun k hk => .inr (by injection hk with hk; rw [← hk]; exact hs.lom)).nopeBelow
      have HNX : Hid (∀ y, L[i + 1]? = some y → ¬ y ≤ x) := fun y hy => by
        obtain ⟨h1, e1⟩ := List.getElem?_eq_some_iff.1 HX.out
        obtain ⟨h2, e2⟩ := List.getElem?_eq_some_iff.1 hy
        have := List.pairwise_iff_getElem.1 HL.out.lt i (i + 1) h1 h2 (Nat.lt_succ_self i)
        rw [e1, e2] at this
        exact this
      have hs1 := HS1.out.1
      have hs2 := HS1.out.2
      go_wp2_with fail
      go_roundg m
      case measure => omega
      case rel => exact ⟨i + 1, r2, x, by go_num, rfl, ⟨by have := hk.out.1; show _ = _; omega, HNX.out⟩, HP.out⟩
    · obtain rfl : gk = 0 := by have := hk.out.1; omega
      have hil : L.length ≤ i := by omega
      have hr0 : r = ⟨#[]⟩ := nb_nil (by rw [hW.out.nbr, List.drop_eq_nil_of_le hil]; rfl)
      have HE : Hid (wire_Reader_End.f r 0 = some (0, r, 0)) := by show _ = _; rw [hr0, wire_Reader_End.f, if_pos (by rw [ByteArray.toList_eq])]
      have HCC := Lib.hid (HFIN.out i hil)
      have HIL : Hid (1 + 2 * i ≤ 40) := by have := hk.out.1; have := HL.out.le; exact (by omega : 1 + 2 * i ≤ 40)
      clear hlt hil hr0
      go_wp2_with fail
      refine (wire_Reader_End.calls g r 0 0 r 0 w _ hW.out.rd hW.out.bl HE.out).mono ?_
      rintro e w5 ⟨rfl, hi5, hb5, hk5⟩
      have HS5 : Hid (Sh w w5 s mb (1 + 2 * i) C (ldK L i) ∧ Below w.heap.size w w5) := by
        have h1 := hW.out.read hi5 hb5 hk5
        rw [HCC.out.1] at h1
        exact ⟨h1, hb5⟩
      clear hi5 hb5 hk5
      go_wp2_with fail
      go_ret2
      exact ⟨s, mb, _, _, rfl, HS5.out.1, HCC.out.2, HIL.out, HLO.out.1, HLO.out.2, Turn.toNope HS5.out.2⟩
end Go.Proofs.Ytlalbmgopbcplaa
