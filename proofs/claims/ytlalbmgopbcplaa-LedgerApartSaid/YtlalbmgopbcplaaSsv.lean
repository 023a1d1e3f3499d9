/- Save, walked: the goods' bytes. -/
import Derived.Test.YtlalbmgopbcplaaSaw
import Derived.Test.YtlalbmgopbcplaaMine
import Derived.Test.YtlalbmgopbcplaaRd
set_option maxRecDepth 16000
set_option linter.unusedVariables false
set_option linter.unusedSimpArgs false
namespace Go.Proofs.Ytlalbmgopbcplaa
open Go.RowKit Go.Maps
variable {C : Nm → Int} {K : List Nm} {w0 w w' : World} {s mb n : Nat} {D : Dm} {o : Op4}
/-- One good's bytes. -/
def goodBs (C : Nm → Int) (x : Nm) : List Nat := num x.length ++ x.map UInt8.toNat ++ num (C x).toNat
def saveBs (C : Nm → Int) (L : List Nm) : List Nat := num L.length ++ L.flatMap (goodBs C)
/-- A shelf's bytes. -/
def savedS (C : Nm → Int) (K : List Nm) : ByteArray := bstr (saveBs C (accs K))
theorem good_lt (C : Nm → Int) (x : Nm) : ∀ y ∈ goodBs C x, y < 256 := by
  intro y hy
  unfold goodBs at hy
  rcases List.mem_append.1 hy with hy | hy
  · rcases List.mem_append.1 hy with hy | hy
    · exact num_lt _ y hy
    · obtain ⟨c, _, rfl⟩ := List.mem_map.1 hy
      exact c.toNat_lt
  · exact num_lt _ y hy
theorem save_lt (C : Nm → Int) (L : List Nm) : ∀ y ∈ saveBs C L, y < 256 := by
  intro y hy
  unfold saveBs at hy
  rcases List.mem_append.1 hy with hy | hy
  · exact num_lt _ y hy
  · obtain ⟨x, _, hx⟩ := List.mem_flatMap.1 hy
    exact good_lt C x y hx
theorem nb_arr (x : Nm) : nb ⟨x.toArray⟩ = x.map UInt8.toNat := by simp [nb]
theorem good_len {C : Nm → Int} {x : Nm} (hx : x.length ≤ 12) (hc : C x ≤ 1099511627776) : (goodBs C x).length ≤ 40 := by
  unfold goodBs
  have h1 := num_le x.length (by omega)
  have h2 := num_le (C x).toNat (by omega)
  simp only [List.length_append, List.length_map]
  omega
/-- In the middle of the goods. -/
structure SaveW (w0 w wr : World) (s mb n g i : Nat) (v : Value) (C : Nm → Int) (K L : List Nm) : Prop where
  wb : WrB wr w.heap.size g (num L.length ++ (L.take i).flatMap (goodBs C))
  tn : Turn Nope w wr
  row : wr.ownsRow w.heap.size 9 1 v (L.length + 1) (encs ([] :: L))
  len : (num L.length ++ (L.take i).flatMap (goodBs C)).length ≤ 10 + 40 * i
theorem own_kept2 {b e size m : Nat} {v : Value} {xs : List Value} (h : w.ownsRow b e size v m xs) (hk : Kept2 w w') (h5 : e ≠ 5) (h49 : e ≠ 49) : w'.ownsRow b e size v m xs := by
  refine ⟨h.1, ?_⟩
  rcases h.2 with hn | ⟨g, cap, cur, hv, hb, hh, rest⟩
  · exact .inl hn
  · exact .inr ⟨g, cap, cur, hv, hb, hk g cur e h5 h49 hh, rest⟩
theorem own_lower {b b' e size m : Nat} {v : Value} {xs : List Value} (h : w.ownsRow b e size v m xs) (hb : b' ≤ b) : w.ownsRow b' e size v m xs := by
  refine ⟨h.1, ?_⟩
  rcases h.2 with hn | ⟨g, cap, cur, hv, hg, rest⟩
  · exact .inl hn
  · exact .inr ⟨g, cap, cur, hv, Nat.le_trans hb hg, rest⟩
theorem u64_small {c : Int} (h0 : 0 ≤ c) (h1 : c ≤ 1099511627776) : IntKind.u64.wrap c = c := by
  unfold IntKind.wrap; simp [IntKind.bits, IntKind.signed]; omega
set_option maxHeartbeats 8000000 in
theorem save_any (h : Sh w0 w s mb n C K) : Calls Try.prog 8 #[.pointer (some ⟨s, 0, none⟩)] w fun e w' => e = .returned (.string (savedS C K)) ∧ Turn Nope w w' := by
  have H0 := Lib.hid h
  have hu : IntKind.u64.wrap (((accs K).length : Nat) : Int) = ((accs K).length : Int) := u64_small (by omega) (by have := h.good.le; have := accs_length h.good.house; omega)
  have HU := Lib.hid hu
  clear h hu
  go_enter Try.func8, Try.ntmps8
  go_wp2_with fail
  obtain ⟨g, hg⟩ : ∃ g, w.heap.size = g := ⟨_, rfl⟩
  have HWR0 : Hid (WrB (w.alloc (.cells #[.slice none 0 0] 49)) w.heap.size g []) := by rw [← hg]; exact WrB.new w _ (Nat.le_refl _)
  rw [hg]
  clear hg
  have H1 := Lib.hid (H0.out.nope ((Turn.refl _ _).alloc (.cells #[.slice none 0 0] 49)))
  refine (names_any H1.out).mono ?_
  rintro e w1 ⟨v, rfl, hv, ht⟩
  obtain ⟨A, cc, gr, cap, rfl, hcc, hA, hrow⟩ := hv
  have hu := HU.out
  obtain ⟨L, hL⟩ : ∃ L, accs K = L := ⟨_, rfl⟩
  have HL : Hid (L.length ≤ 16 ∧ ∀ x ∈ L, x.length ≤ 12 ∧ 0 ≤ C x ∧ C x ≤ 1099511627776) := by
    rw [← hL]
    have h1 := accs_length H0.out.good.house
    have h2 := H0.out.good.le
    refine ⟨by omega, fun x hx => ?_⟩
    have hx := (accs_mem H0.out.good.nd H0.out.good.house x).1 hx
    exact ⟨H0.out.good.nm x hx.1, H0.out.good.lo x hx.2, H0.out.good.hi x hx.2⟩
  have HSV : Hid (savedS C K = bstr (saveBs C L)) := by show savedS C K = _; unfold savedS; rw [hL]
  rw [hL] at hrow hA hcc hu ⊢
  have HA := Lib.hid (And.intro hA hcc)
  have HW1 := Lib.hid (And.intro (HWR0.out.nope ht) (And.intro (((Turn.refl Nope w).alloc (.cells #[.slice none 0 0] 49)).trans ht) (own_lower (b' := w.heap.size) hrow (by simp))))
  clear hL hA hcc hrow ht H1 HU
  go_wp2_with fail
  clear hu
  refine (num_mine L.length (by have := HL.out.1; omega) _ HW1.out.1 (by simp)).mono ?_
  rintro e w2 ⟨rfl, hwr, hb, hk⟩
  have HW2 : Hid (SaveW w0 w w2 s mb n g 0 (.slice (some ⟨gr, 0, none⟩) (L.length + 1) cap) C K L) := by
    refine ⟨?_, Turn.toNope (HW1.out.2.1.nopeBelow.trans hb), own_kept2 HW1.out.2.2 hk (by decide) (by decide), ?_⟩
    · rw [List.nil_append] at hwr
      simpa using hwr
    · have := num_le L.length (by have := HL.out.1; omega)
      simpa using this
  clear hwr hb hk HW1 HWR0
  go_wp2_with fail
  go_loopg [15] L.length (fun kk v15 wr => ∃ (i : Nat), v15 = .int .i64 (i : Int) ∧ Hid (kk + i = L.length) ∧ Hid (SaveW w0 w wr s mb n g i (.slice (some ⟨gr, 0, none⟩) (L.length + 1) cap) C K L))
  case atStart => exact ⟨0, rfl, rfl, HW2.out⟩
  case round =>
    obtain ⟨i, rfl, hk, hW⟩ := hrel
    clear HW2
    by_cases hlt : i < L.length
    · have b1 : decide ((i : Int) < (L.length : Int)) = true := by simp; omega
      have b1n : decide (i < L.length) = true := by simp; omega
      have i0 : (0 : Int) ≤ (i : Int) := by omega
      have i1 : (i : Int) < (L.length : Int) := by omega
      have hw : wrap64 ((i : Int) + 1) = (i : Int) + 1 := IntWalk.wrap64_in _ ⟨by omega, by have := HL.out.1; omega⟩
      have HWR := Lib.hid hw
      have HLT := Lib.hid hlt
      obtain ⟨x, hx⟩ : ∃ x, L[i]? = some x := ⟨_, List.getElem?_eq_getElem hlt⟩
      obtain rfl := HA.out.1 (by omega)
      have hcc := HA.out.2
      have c0' : (wr.cell? ⟨gr, i + 1, none⟩) = some (.string ⟨x.toArray⟩) := own_elem hW.out.row (i + 1) (u := encStr x) (by simp [encs, hx])
      have c0 : (wr.cell? ⟨gr, 1 + i, none⟩) = some (.string ⟨x.toArray⟩) := by rw [Nat.add_comm]; exact c0'
      have i2 : (i : Int) < (cc : Int) := by omega
      have HXI := Lib.hid hx
      have HX : Hid ((0 ≤ C x ∧ C x ≤ 1099511627776) ∧ x.length ≤ 12) := ⟨(HL.out.2 x (List.mem_of_getElem? hx)).2, (HL.out.2 x (List.mem_of_getElem? hx)).1⟩
      obtain ⟨cn, hcn⟩ : ∃ cn : Nat, C x = (cn : Int) := ⟨(C x).toNat, by have := HX.out.1.1; omega⟩
      have HCN : Hid (C x = (cn : Int) ∧ (C x).toNat = cn ∧ cn ≤ 1099511627776) := by have := HX.out.1.2; exact ⟨hcn, by omega, by omega⟩
      have hu : IntKind.u64.wrap (cn : Int) = (cn : Int) := u64_small (by omega) (by have := HCN.out.2.2; omega)
      have FL : Hid (∀ W, Turn Nope w W → (Instr.lookup 44 (.map (some mb)) (.string ⟨x.toArray⟩) false).run Try.prog W = .ok (.int .i64 (cn : Int)) W) := fun W h => by
        rw [← HCN.out.1]
        obtain ⟨D, hD⟩ := (H0.out.nope h).map
        have := hD.look1 (x := ⟨x.toArray⟩) (by show x.toArray.size ≤ maxLen; have := HX.out.2; simp; unfold maxLen; omega)
        simpa using this
      clear hw hlt hx hcn
      go_upto_region 7 with (fail)
      clear c0 c0' i0 i1 i2 b1 b1n hcc
      refine wp_region_held_drew (S := fun W => W.cell? ⟨s, 0, none⟩ = some (.map (some mb)) ∧ (Instr.lookup 44 (.map (some mb)) (.string ⟨x.toArray⟩) false).run Try.prog W = .ok (.int .i64 (cn : Int)) W) (by kernel_rfl) ⟨(H0.out.nope (hW.out.tn.trans (Turn.refl _ _).drew)).cell, FL.out _ (hW.out.tn.trans (Turn.refl _ _).drew)⟩ (fun hHeld => ?_)
      refine' wpAnyH_take (i := 0) (v := _) (by simp only [List.getElem?_toArray, List.getElem?_cons_succ, List.getElem?_cons_zero]; rfl) (by kernel_rfl) (by kernel_rfl) (by kernel_rfl) (by intro _ _ _ h; exact h) (Or.inl ⟨by rfl, ?hyv60⟩) hHeld ?restv60
      case hyv60 => (intro w hSw; (try dsimp only at hSw); go_simp; try (with_reducible rfl))
      simp only [Act.put, List.setIfInBounds_toArray, List.set_cons_zero, List.set_cons_succ]
      refine' wpAnyH_take (i := 2) (v := _) (by simp only [List.getElem?_toArray, List.getElem?_cons_succ, List.getElem?_cons_zero]; rfl) (by kernel_rfl) (by kernel_rfl) (by kernel_rfl) (by intro _ _ _ h; exact h) (Or.inl ⟨by rfl, ?hyv62⟩) hHeld ?restv62
      case hyv62 => (intro w hSw; (try dsimp only at hSw); go_simp; try (with_reducible rfl))
      simp only [Act.put, List.setIfInBounds_toArray, List.set_cons_zero, List.set_cons_succ]
      refine' wpAnyH_take (i := 3) (v := _) (by simp only [List.getElem?_toArray, List.getElem?_cons_succ, List.getElem?_cons_zero]; rfl) (by kernel_rfl) (by kernel_rfl) (by kernel_rfl) (by intro _ _ _ h; exact h) (Or.inl ⟨by rfl, ?hyv63⟩) hHeld ?restv63
      case hyv63 => (intro w hSw; (try dsimp only at hSw); go_simp; try (with_reducible rfl))
      simp only [Act.put, List.setIfInBounds_toArray, List.set_cons_zero, List.set_cons_succ]
      refine' wpAnyH_take (i := 4) (v := _) (by simp only [List.getElem?_toArray, List.getElem?_cons_succ, List.getElem?_cons_zero]; rfl) (by kernel_rfl) (by kernel_rfl) (by kernel_rfl) (by intro _ _ _ h; exact h) (Or.inl ⟨by rfl, ?hyv64⟩) hHeld ?restv64
      case hyv64 => (intro w hSw; (try dsimp only at hSw); go_simp; try (with_reducible rfl))
      simp only [Act.put, List.setIfInBounds_toArray, List.set_cons_zero, List.set_cons_succ]
      refine' wpAnyH_take (i := 5) (v := _) (by simp only [List.getElem?_toArray, List.getElem?_cons_succ, List.getElem?_cons_zero]; rfl) (by kernel_rfl) (by kernel_rfl) (by kernel_rfl) (by intro _ _ _ h; exact h) (Or.inl ⟨by rfl, ?hyv65⟩) hHeld ?restv65
      case hyv65 => (intro w hSw; (try dsimp only at hSw); go_simp; try (with_reducible rfl))
      simp only [Act.put, List.setIfInBounds_toArray, List.set_cons_zero, List.set_cons_succ]
      refine' wpAnyH_take (i := 6) (v := _) (by simp only [List.getElem?_toArray, List.getElem?_cons_succ, List.getElem?_cons_zero]; rfl) (by kernel_rfl) (by kernel_rfl) (by kernel_rfl) (by intro _ _ _ h; exact h) (Or.inl ⟨by rfl, ?hyv66⟩) hHeld ?restv66
      case hyv66 => (intro w hSw; (try dsimp only at hSw); go_simp; try (with_reducible rfl))
      simp only [Act.put, List.setIfInBounds_toArray, List.set_cons_zero, List.set_cons_succ]
      refine' wpAnyH_take (i := 7) (v := _) (by simp only [List.getElem?_toArray, List.getElem?_cons_succ, List.getElem?_cons_zero]; rfl) (by kernel_rfl) (by kernel_rfl) (by kernel_rfl) (by intro _ _ _ h; exact h) (Or.inl ⟨by rfl, ?hyv67⟩) hHeld ?restv67
      case hyv67 => (intro w hSw; (try dsimp only at hSw); go_simp; try (with_reducible rfl))
      simp only [Act.put, List.setIfInBounds_toArray, List.set_cons_zero, List.set_cons_succ]
      refine' wpAnyH_take (i := 8) (v := _) (by simp only [List.getElem?_toArray, List.getElem?_cons_succ, List.getElem?_cons_zero]; rfl) (by kernel_rfl) (by kernel_rfl) (by kernel_rfl) (by intro _ _ _ h; exact h) (Or.inl ⟨by rfl, ?hyv68⟩) hHeld ?restv68
      case hyv68 => (intro w hSw; (try dsimp only at hSw); go_simp; try (with_reducible rfl))
      simp only [Act.put, List.setIfInBounds_toArray, List.set_cons_zero, List.set_cons_succ]
      refine wpAnyH_ready (rs := [1]) (by kernel_rfl) (by simp) (AllReadyH.cons (by simp only [List.getElem?_toArray, List.getElem?_cons_succ, List.getElem?_cons_zero]; rfl) (fun KK hKK => ?_) AllReadyH.nil)
      go_simp
      refine (str_mine ⟨x.toArray⟩ (by have := HX.out.2; simp [ByteArray.size]; omega) _ (hW.out.wb.nope (Turn.refl _ _).drew) (by have := hW.out.len; have := HL.out.1; have := HLT.out; omega)).mono ?_
      rintro e w4 ⟨rfl, hwr, hb, hk⟩
      have HW4 := Lib.hid (And.intro hwr (And.intro hb hk))
      clear hwr hb hk
      have H4 : Hid (Sh w0 w4 s mb n C K ∧ Turn Nope w w4) := by
        have ht : Turn Nope w w4 := Turn.toNope ((hW.out.tn.trans (Turn.refl _ _).drew).nopeBelow.trans HW4.out.2.1)
        exact ⟨H0.out.nope ht, ht⟩
      try go_wp2_with fail
      refine hKK.out _ _ ?_ (fun hHeld => ?_)
      · exact ⟨H4.out.1.cell, FL.out _ H4.out.2⟩
      clear hKK KK
      try simp only [Act.put, List.setIfInBounds_toArray, List.set_cons_zero, List.set_cons_succ]
      refine wpAnyH_ready (rs := [9]) (by kernel_rfl) (by simp) (AllReadyH.cons (by simp only [List.getElem?_toArray, List.getElem?_cons_succ, List.getElem?_cons_zero]; rfl) (fun KK hKK => ?_) AllReadyH.nil)
      go_simp
      refine (num_mine cn (by have := HCN.out.2.2; omega) _ HW4.out.1 (by have h1 := hW.out.len; have := HL.out.1; have := HLT.out; have := HX.out.2; have h2 := num_le x.length (by omega); simp only [List.length_append, nb_arr, List.length_map] at h1 ⊢; rw [show ByteArray.size ⟨x.toArray⟩ = x.length by simp [ByteArray.size]]; omega)).mono ?_
      rintro e w5 ⟨rfl, hwr, hb, hk⟩
      have HW5 := Lib.hid (And.intro hwr (And.intro hb hk))
      clear hwr hb hk
      have H5 : Hid (Sh w0 w5 s mb n C K ∧ Turn Nope w w5) := by
        have ht : Turn Nope w w5 := Turn.toNope (H4.out.2.nopeBelow.trans HW5.out.2.1)
        exact ⟨H0.out.nope ht, ht⟩
      try go_wp2_with fail
      refine hKK.out _ _ ?_ (fun hHeld => ?_)
      · exact ⟨H5.out.1.cell, FL.out _ H5.out.2⟩
      clear hKK KK
      try simp only [Act.put, List.setIfInBounds_toArray, List.set_cons_zero, List.set_cons_succ]
      refine wpAnyH_done (by kernel_rfl) ?_ _
      clear hHeld
      have HP : Hid (SaveW w0 w w5 s mb n g (i + 1) (.slice (some ⟨gr, 0, none⟩) (L.length + 1) cap) C K L) := by
        have hbs : (num L.length ++ (L.take i).flatMap (goodBs C)) ++ (num (ByteArray.size ⟨x.toArray⟩) ++ nb ⟨x.toArray⟩) ++ num cn = num L.length ++ (L.take (i + 1)).flatMap (goodBs C) := by
          rw [List.take_add_one, HXI.out, List.flatMap_append, nb_arr]
          simp [goodBs, ByteArray.size, HCN.out.2.1]
        have h1 := HW5.out.1
        rw [hbs] at h1
        refine ⟨h1, H5.out.2, ?_, ?_⟩
        · have h2 := own_kept2 (own_nope hW.out.row (Turn.refl Nope wr).drew) HW4.out.2.2 (by decide) (by decide)
          exact own_kept2 h2 HW5.out.2.2 (by decide) (by decide)
        · rw [← hbs]
          have h3 := good_len (C := C) (x := x) HX.out.2 HX.out.1.2
          have h4 := hW.out.len
          unfold goodBs at h3
          rw [HCN.out.2.1] at h3
          simp only [List.length_append, nb_arr, List.length_map] at h3 h4 ⊢
          have h5 : ByteArray.size ⟨x.toArray⟩ = x.length := by simp [ByteArray.size]
          rw [h5]
          omega
      clear hu
      go_wp2_with fail
      have hw := HWR.out
      go_wp2_with fail
      go_roundg (L.length - (i + 1))
      case measure => have := hk.out; have := HLT.out; omega
      case rel => exact ⟨i + 1, by go_num, by have := hk.out; have := HLT.out; show _ = _; omega, HP.out⟩
    · have b1 : decide ((i : Int) < (L.length : Int)) = false := by simp; omega
      have b1n : decide (i < L.length) = false := by simp; omega
      have HTK : Hid (L.take i = L) := List.take_of_length_le (by omega)
      clear hlt
      go_wp2_with fail
      have h1 := hW.out.wb
      rw [HTK.out] at h1
      have h2 : WrB wr w.heap.size g (nb (bstr (saveBs C L))) := by rw [nb_bstr _ (save_lt C L)]; exact h1
      refine (text_mine _ _ h2).mono ?_
      rintro e w6 ⟨rfl, rfl⟩
      go_wp2_with fail
      go_ret
      exact ⟨by rw [HSV.out]; rfl, hW.out.tn⟩
end Go.Proofs.Ytlalbmgopbcplaa
