/- Save, walked: the goods' bytes. -/
import Derived.Test.YtianagpneoopeaaSaw
import Derived.Test.YtianagpneoopeaaMine
import Derived.Test.YtianagpneoopeaaRd
set_option maxRecDepth 16000
set_option linter.unusedVariables false
set_option linter.unusedSimpArgs false
namespace Go.Proofs.Ytianagpneoopeaa
open Go.RowKit Go.Maps
variable {C : Nm → Int} {K : List Nm} {w0 w w' : World} {s mb n : Nat} {D : Dm} {o : Op3}
/-- One good's bytes. -/
def goodBs (C : Nm → Int) (x : Nm) : List Nat := num x.length ++ x.map UInt8.toNat ++ num (C x).toNat
def saveBs (C : Nm → Int) (L : List Nm) : List Nat := num L.length ++ L.flatMap (goodBs C)
/-- A shelf's bytes. -/
def savedS (C : Nm → Int) (K : List Nm) : ByteArray := bstr (saveBs C (srt K))
theorem good_lt (C : Nm → Int) (x : Nm) : ∀ y ∈ goodBs C x, y < 256 := by
  intro y hy
  unfold goodBs at hy
  rcases List.mem_append.1 hy with hy | hy
  · rcases List.mem_append.1 hy with hy | hy
    · exact num_lt _ y hy
    · obtain ⟨c, _, rfl⟩ := List.mem_map.1 hy
      exact c.toNat_lt
  · exact num_lt _ y hy
theorem save_lt (C : Nm → Int) (L : List Nm) : ∀ y ∈ saveBs C L, y < 256 := by
  intro y hy
  unfold saveBs at hy
  rcases List.mem_append.1 hy with hy | hy
  · exact num_lt _ y hy
  · obtain ⟨x, _, hx⟩ := List.mem_flatMap.1 hy
    exact good_lt C x y hx
theorem nb_arr (x : Nm) : nb ⟨x.toArray⟩ = x.map UInt8.toNat := by simp [nb]
theorem good_len {C : Nm → Int} {x : Nm} (hx : x.length ≤ 12) (hc : C x ≤ 1099511627776) : (goodBs C x).length ≤ 40 := by
  unfold goodBs
  have h1 := num_le x.length (by omega)
  have h2 := num_le (C x).toNat (by omega)
  simp only [List.length_append, List.length_map]
  omega
/-- In the middle of the goods. -/
structure SaveW (w0 w wr : World) (s mb n g i : Nat) (v : Value) (C : Nm → Int) (K L : List Nm) : Prop where
  wb : WrB wr w.heap.size g (num L.length ++ (L.take i).flatMap (goodBs C))
  tn : Turn Nope w wr
  row : wr.ownsRow w.heap.size 9 1 v L.length (encs L)
  len : (num L.length ++ (L.take i).flatMap (goodBs C)).length ≤ 10 + 40 * i
theorem own_kept2 {b e size m : Nat} {v : Value} {xs : List Value} (h : w.ownsRow b e size v m xs) (hk : Kept2 w w') (h5 : e ≠ 5) (h54 : e ≠ 54) : w'.ownsRow b e size v m xs := by
  refine ⟨h.1, ?_⟩
  rcases h.2 with hn | ⟨g, cap, cur, hv, hb, hh, rest⟩
  · exact .inl hn
  · exact .inr ⟨g, cap, cur, hv, hb, hk g cur e h5 h54 hh, rest⟩
theorem own_lower {b b' e size m : Nat} {v : Value} {xs : List Value} (h : w.ownsRow b e size v m xs) (hb : b' ≤ b) : w.ownsRow b' e size v m xs := by
  refine ⟨h.1, ?_⟩
  rcases h.2 with hn | ⟨g, cap, cur, hv, hg, rest⟩
  · exact .inl hn
  · exact .inr ⟨g, cap, cur, hv, Nat.le_trans hb hg, rest⟩
theorem u64_small {c : Int} (h0 : 0 ≤ c) (h1 : c ≤ 1099511627776) : IntKind.u64.wrap c = c := by
  unfold IntKind.wrap; simp [IntKind.bits, IntKind.signed]; omega
set_option maxHeartbeats 8000000 in
theorem save_any (h : Sh w0 w s mb n C K) : Calls Try.prog 11 #[.pointer (some ⟨s, 0, none⟩)] w fun e w' => e = .returned (.string (savedS C K)) ∧ Turn Nope w w' := by
  have H0 := Lib.hid h
  obtain ⟨D, hD⟩ := h.map
  have hlen : ∀ o, (Builtin.len_ #[43] 3 #[.map (some mb)]).run Try.prog (w.alloc o) = .ok (.int .i64 (K.length : Int)) (w.alloc o) := fun o => by
    rw [← hD.len]; exact (hD.turn ((Turn.refl Nope w).alloc o) fun h => h).own.len Try.underlying43 3
  have c0 := fun o => (h.nope ((Turn.refl _ _).alloc o)).cell
  have hu : IntKind.u64.wrap ((K.length : Nat) : Int) = (K.length : Int) := u64_small (by omega) (by have := h.good.le; omega)
  have HK := Lib.hid h.good.le
  clear h hD
  go_enter Try.func11, Try.ntmps11
  go_wp2_with fail
  clear hlen c0 hu
  obtain ⟨g, hg⟩ : ∃ g, w.heap.size = g := ⟨_, rfl⟩
  have HWR0 : Hid (WrB (w.alloc (.cells #[.slice none 0 0] 54)) w.heap.size g []) := by rw [← hg]; exact WrB.new w _ (Nat.le_refl _)
  rw [hg]
  clear hg
  refine (num_mine K.length (by have := HK.out; omega) _ HWR0.out (by simp)).mono ?_
  rintro e w1 ⟨rfl, hwr, hb, hk⟩
  have HW1 := Lib.hid (And.intro hwr (And.intro (Turn.toNope ((((Turn.refl Nope w).alloc _).nopeBelow).trans hb)) hk))
  clear hwr hb hk
  have H1 := Lib.hid (H0.out.nope HW1.out.2.1)
  go_wp2_with fail
  refine (names_any H1.out).mono ?_
  rintro e w2 ⟨v, rfl, hrow, ht⟩
  obtain ⟨L, hL⟩ : ∃ L, srt K = L := ⟨_, rfl⟩
  have HL : Hid (L.length = K.length ∧ L.length ≤ 16) := by rw [← hL, srt_length]; exact ⟨rfl, HK.out⟩
  have HLM : Hid (∀ x ∈ L, x.length ≤ 12) := fun x hx => (H0.out.good.nm x ((srt_mem K x).1 (by rw [hL]; exact hx))).2
  have HSV : Hid (savedS C K = bstr (saveBs C L)) := by show savedS C K = _; unfold savedS; rw [hL]
  rw [hL] at hrow
  obtain ⟨A, cp, rfl, _⟩ := own_slice hrow
  have HW2 : Hid (SaveW w0 w w2 s mb n g 0 (.slice A L.length cp) C K L) := by
    refine ⟨?_, HW1.out.2.1.trans ht, own_lower hrow HW1.out.2.1.size, ?_⟩
    · have h1 := HW1.out.1.nope ht
      rw [List.nil_append, ← HL.out.1] at h1
      simpa using h1
    · have := num_le L.length (by have := HL.out.2; omega)
      simpa using this
  clear hrow ht hL
  go_wp2_with fail
  go_loopg [16] L.length (fun kk v16 wr => ∃ (i : Nat), v16 = .int .i64 (i : Int) ∧ Hid (kk + i = L.length) ∧ Hid (SaveW w0 w wr s mb n g i (.slice A L.length cp) C K L))
  case atStart => exact ⟨0, rfl, rfl, HW2.out⟩
  case round =>
    obtain ⟨i, rfl, hk, hW⟩ := hrel
    clear HW2
    by_cases hlt : i < L.length
    · have b1 : decide ((i : Int) < (L.length : Int)) = true := by simp; omega
      have b1n : decide (i < L.length) = true := by simp; omega
      have i0 : (0 : Int) ≤ (i : Int) := by omega
      have i1 : (i : Int) < (L.length : Int) := by omega
      have hw : wrap64 ((i : Int) + 1) = (i : Int) + 1 := IntWalk.wrap64_in _ ⟨by omega, by have := HL.out.2; omega⟩
      have HWR := Lib.hid hw
      have HLT := Lib.hid hlt
      obtain ⟨x, hx⟩ : ∃ x, L[i]? = some x := ⟨_, List.getElem?_eq_getElem hlt⟩
      obtain ⟨gr, c, ev, -⟩ := World.ownsRow.form hW.out.row (by omega)
      injection ev with ev1 ev2 ev3
      subst ev1
      clear ev2 ev3
      have c0 : (wr.cell? ⟨gr, i, none⟩) = some (.string ⟨x.toArray⟩) := own_elem hW.out.row i (u := encStr x) (by simp [encs, hx])
      have HXI := Lib.hid hx
      have HX : Hid ((0 ≤ C x ∧ C x ≤ 1099511627776) ∧ x.length ≤ 12) := ⟨⟨H0.out.good.lo x, H0.out.good.hi x⟩, HLM.out x (List.mem_of_getElem? hx)⟩
      obtain ⟨cn, hcn⟩ : ∃ cn : Nat, C x = (cn : Int) := ⟨(C x).toNat, by have := HX.out.1.1; omega⟩
      have HCN : Hid (C x = (cn : Int) ∧ (C x).toNat = cn ∧ cn ≤ 1099511627776) := by have := HX.out.1.2; exact ⟨hcn, by omega, by omega⟩
      have hu : IntKind.u64.wrap (cn : Int) = (cn : Int) := u64_small (by omega) (by have := HCN.out.2.2; omega)
      have FL : Hid (∀ W, Turn Nope w W → (Instr.lookup 43 (.map (some mb)) (.string ⟨x.toArray⟩) false).run Try.prog W = .ok (.int .i64 (cn : Int)) W) := fun W h => by
        rw [← HCN.out.1]
        obtain ⟨D, hD⟩ := (H0.out.nope h).map
        have := hD.look1 (x := ⟨x.toArray⟩) (by show x.toArray.size ≤ maxLen; have := HX.out.2; simp; unfold maxLen; omega)
        simpa using this
      clear hw hlt hx hcn
      go_upto_region 6 with (fail)
      clear c0 i0 i1 b1 b1n
      refine wp_region_held_drew (S := fun W => W.cell? ⟨s, 0, none⟩ = some (.map (some mb)) ∧ (Instr.lookup 43 (.map (some mb)) (.string ⟨x.toArray⟩) false).run Try.prog W = .ok (.int .i64 (cn : Int)) W) (by kernel_rfl) ⟨(H0.out.nope (hW.out.tn.trans (Turn.refl _ _).drew)).cell, FL.out _ (hW.out.tn.trans (Turn.refl _ _).drew)⟩ (fun hHeld => ?_)
      refine' wpAnyH_take (i := 0) (v := _) (by simp only [List.getElem?_toArray, List.getElem?_cons_succ, List.getElem?_cons_zero]; rfl) (by kernel_rfl) (by kernel_rfl) (by kernel_rfl) (by intro _ _ _ h; exact h) (Or.inl ⟨by rfl, ?hyv60⟩) hHeld ?restv60
      case hyv60 => (intro w hSw; (try dsimp only at hSw); go_simp; try (with_reducible rfl))
      simp only [Act.put, List.setIfInBounds_toArray, List.set_cons_zero, List.set_cons_succ]
      refine' wpAnyH_take (i := 2) (v := _) (by simp only [List.getElem?_toArray, List.getElem?_cons_succ, List.getElem?_cons_zero]; rfl) (by kernel_rfl) (by kernel_rfl) (by kernel_rfl) (by intro _ _ _ h; exact h) (Or.inl ⟨by rfl, ?hyv62⟩) hHeld ?restv62
      case hyv62 => (intro w hSw; (try dsimp only at hSw); go_simp; try (with_reducible rfl))
      simp only [Act.put, List.setIfInBounds_toArray, List.set_cons_zero, List.set_cons_succ]
      refine' wpAnyH_take (i := 3) (v := _) (by simp only [List.getElem?_toArray, List.getElem?_cons_succ, List.getElem?_cons_zero]; rfl) (by kernel_rfl) (by kernel_rfl) (by kernel_rfl) (by intro _ _ _ h; exact h) (Or.inl ⟨by rfl, ?hyv63⟩) hHeld ?restv63
      case hyv63 => (intro w hSw; (try dsimp only at hSw); go_simp; try (with_reducible rfl))
      simp only [Act.put, List.setIfInBounds_toArray, List.set_cons_zero, List.set_cons_succ]
      refine' wpAnyH_take (i := 4) (v := _) (by simp only [List.getElem?_toArray, List.getElem?_cons_succ, List.getElem?_cons_zero]; rfl) (by kernel_rfl) (by kernel_rfl) (by kernel_rfl) (by intro _ _ _ h; exact h) (Or.inl ⟨by rfl, ?hyv64⟩) hHeld ?restv64
      case hyv64 => (intro w hSw; (try dsimp only at hSw); go_simp; try (with_reducible rfl))
      simp only [Act.put, List.setIfInBounds_toArray, List.set_cons_zero, List.set_cons_succ]
      refine' wpAnyH_take (i := 5) (v := _) (by simp only [List.getElem?_toArray, List.getElem?_cons_succ, List.getElem?_cons_zero]; rfl) (by kernel_rfl) (by kernel_rfl) (by kernel_rfl) (by intro _ _ _ h; exact h) (Or.inl ⟨by rfl, ?hyv65⟩) hHeld ?restv65
      case hyv65 => (intro w hSw; (try dsimp only at hSw); go_simp; try (with_reducible rfl))
      simp only [Act.put, List.setIfInBounds_toArray, List.set_cons_zero, List.set_cons_succ]
      refine' wpAnyH_take (i := 6) (v := _) (by simp only [List.getElem?_toArray, List.getElem?_cons_succ, List.getElem?_cons_zero]; rfl) (by kernel_rfl) (by kernel_rfl) (by kernel_rfl) (by intro _ _ _ h; exact h) (Or.inl ⟨by rfl, ?hyv66⟩) hHeld ?restv66
      case hyv66 => (intro w hSw; (try dsimp only at hSw); go_simp; try (with_reducible rfl))
      simp only [Act.put, List.setIfInBounds_toArray, List.set_cons_zero, List.set_cons_succ]
      refine' wpAnyH_take (i := 7) (v := _) (by simp only [List.getElem?_toArray, List.getElem?_cons_succ, List.getElem?_cons_zero]; rfl) (by kernel_rfl) (by kernel_rfl) (by kernel_rfl) (by intro _ _ _ h; exact h) (Or.inl ⟨by rfl, ?hyv67⟩) hHeld ?restv67
      case hyv67 => (intro w hSw; (try dsimp only at hSw); go_simp; try (with_reducible rfl))
      simp only [Act.put, List.setIfInBounds_toArray, List.set_cons_zero, List.set_cons_succ]
      refine' wpAnyH_take (i := 8) (v := _) (by simp only [List.getElem?_toArray, List.getElem?_cons_succ, List.getElem?_cons_zero]; rfl) (by kernel_rfl) (by kernel_rfl) (by kernel_rfl) (by intro _ _ _ h; exact h) (Or.inl ⟨by rfl, ?hyv68⟩) hHeld ?restv68
      case hyv68 => (intro w hSw; (try dsimp only at hSw); go_simp; try (with_reducible rfl))
      simp only [Act.put, List.setIfInBounds_toArray, List.set_cons_zero, List.set_cons_succ]
      refine wpAnyH_ready (rs := [1]) (by kernel_rfl) (by simp) (AllReadyH.cons (by simp only [List.getElem?_toArray, List.getElem?_cons_succ, List.getElem?_cons_zero]; rfl) (fun KK hKK => ?_) AllReadyH.nil)
      go_simp
      refine (str_mine ⟨x.toArray⟩ (by have := HX.out.2; simp [ByteArray.size]; omega) _ (hW.out.wb.nope (Turn.refl _ _).drew) (by have := hW.out.len; have := HL.out.2; have := HLT.out; omega)).mono ?_
      rintro e w4 ⟨rfl, hwr, hb, hk⟩
      have HW4 := Lib.hid (And.intro hwr (And.intro hb hk))
      clear hwr hb hk
      have H4 : Hid (Sh w0 w4 s mb n C K ∧ Turn Nope w w4) := by
        have ht : Turn Nope w w4 := Turn.toNope ((hW.out.tn.trans (Turn.refl _ _).drew).nopeBelow.trans HW4.out.2.1)
        exact ⟨H0.out.nope ht, ht⟩
      try go_wp2_with fail
      refine hKK.out _ _ ?_ (fun hHeld => ?_)
      · exact ⟨H4.out.1.cell, FL.out _ H4.out.2⟩
      clear hKK KK
      try simp only [Act.put, List.setIfInBounds_toArray, List.set_cons_zero, List.set_cons_succ]
      refine wpAnyH_ready (rs := [9]) (by kernel_rfl) (by simp) (AllReadyH.cons (by simp only [List.getElem?_toArray, List.getElem?_cons_succ, List.getElem?_cons_zero]; rfl) (fun KK hKK => ?_) AllReadyH.nil)
      go_simp
      refine (num_mine cn (by have := HCN.out.2.2; omega) _ HW4.out.1 (by have h1 := hW.out.len; have := HL.out.2; have := HLT.out; have := HX.out.2; have h2 := num_le x.length (by omega); simp only [List.length_append, nb_arr, List.length_map] at h1 ⊢; rw [show ByteArray.size ⟨x.toArray⟩ = x.length by simp [ByteArray.size]]; omega)).mono ?_
      rintro e w5 ⟨rfl, hwr, hb, hk⟩
      have HW5 := Lib.hid (And.intro hwr (And.intro hb hk))
      clear hwr hb hk
      have H5 : Hid (Sh w0 w5 s mb n C K ∧ Turn Nope w w5) := by
        have ht : Turn Nope w w5 := Turn.toNope (H4.out.2.nopeBelow.trans HW5.out.2.1)
        exact ⟨H0.out.nope ht, ht⟩
      try go_wp2_with fail
      refine hKK.out _ _ ?_ (fun hHeld => ?_)
      · exact ⟨H5.out.1.cell, FL.out _ H5.out.2⟩
      clear hKK KK
      try simp only [Act.put, List.setIfInBounds_toArray, List.set_cons_zero, List.set_cons_succ]
      refine wpAnyH_done (by kernel_rfl) ?_ _
      clear hHeld
      have HP : Hid (SaveW w0 w w5 s mb n g (i + 1) (.slice (some ⟨gr, 0, none⟩) L.length cp) C K L) := by
        have hbs : (num L.length ++ (L.take i).flatMap (goodBs C)) ++ (num (ByteArray.size ⟨x.toArray⟩) ++ nb ⟨x.toArray⟩) ++ num cn = num L.length ++ (L.take (i + 1)).flatMap (goodBs C) := by
          rw [List.take_add_one, HXI.out, List.flatMap_append, nb_arr]
          simp [goodBs, ByteArray.size, HCN.out.2.1]
        have h1 := HW5.out.1
        rw [hbs] at h1
        refine ⟨h1, H5.out.2, ?_, ?_⟩
        · have h2 := own_kept2 (own_nope hW.out.row (Turn.refl Nope wr).drew) HW4.out.2.2 (by decide) (by decide)
          exact own_kept2 h2 HW5.out.2.2 (by decide) (by decide)
        · rw [← hbs]
          have h3 := good_len (C := C) (x := x) HX.out.2 HX.out.1.2
          have h4 := hW.out.len
          unfold goodBs at h3
          rw [HCN.out.2.1] at h3
          simp only [List.length_append, nb_arr, List.length_map] at h3 h4 ⊢
          have h5 : ByteArray.size ⟨x.toArray⟩ = x.length := by simp [ByteArray.size]
          rw [h5]
          omega
      clear hu
      go_wp2_with fail
      have hw := HWR.out
      go_wp2_with fail
      go_roundg (L.length - (i + 1))
      case measure => have := hk.out; have := HLT.out; omega
      case rel => exact ⟨i + 1, by go_num, by have := hk.out; have := HLT.out; show _ = _; omega, HP.out⟩
    · have b1 : decide ((i : Int) < (L.length : Int)) = false := by simp; omega
      have b1n : decide (i < L.length) = false := by simp; omega
      have HTK : Hid (L.take i = L) := List.take_of_length_le (by omega)
      clear hlt
      go_wp2_with fail
      have h1 := hW.out.wb
      rw [HTK.out] at h1
      have h2 : WrB wr w.heap.size g (nb (bstr (saveBs C L))) := by rw [nb_bstr _ (save_lt C L)]; exact h1
      refine (text_mine _ _ h2).mono ?_
      rintro e w6 ⟨rfl, rfl⟩
      go_wp2_with fail
      go_ret
      exact ⟨by rw [HSV.out]; rfl, hW.out.tn⟩
end Go.Proofs.Ytianagpneoopeaa
