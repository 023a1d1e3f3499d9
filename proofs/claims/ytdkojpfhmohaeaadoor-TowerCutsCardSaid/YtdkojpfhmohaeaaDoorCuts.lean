import Derived.Test.YtdkojpfhmohaeaaDoorSame
set_option linter.unusedVariables false
namespace Go.Proofs.YtdkojpfhmohaeaaDoor
open Go.RowKit TI
theorem cutT_sub {a b : Int} {t : List (Int × Int)} : (cutT a b t).Sublist t := List.filter_sublist
theorem cutT_twice (a b : Int) (t : List (Int × Int)) : cutT a b (cutT a b t) = cutT a b t := by unfold cutT; rw [List.filter_filter]; simp
theorem insT_c (x y : Int × Int) (t : List (Int × Int)) : insT x (y :: t) = if y.1 < x.1 then y :: insT x t else if y.1 = x.1 then x :: t else x :: y :: t := rfl
theorem cutT_c (a b : Int) (y : Int × Int) (t : List (Int × Int)) : cutT a b (y :: t) = if y.1 < a ∨ b ≤ y.1 then y :: cutT a b t else cutT a b t := by
  unfold cutT
  rw [List.filter_cons]
  by_cases h : y.1 < a ∨ b ≤ y.1 <;> simp [h]
theorem insT_lt {x : Int × Int} {t : List (Int × Int)} (h : ∀ y ∈ t, x.1 < y.1) : insT x t = x :: t := by
  cases t with
  | nil => rfl
  | cons c t =>
    have := h c List.mem_cons_self
    rw [insT_c, if_neg (by omega), if_neg (by omega)]
theorem cutT_insT {a b : Int} (x : Int × Int) : ∀ {t : List (Int × Int)}, SortedT t → cutT a b (insT x t) = if x.1 < a ∨ b ≤ x.1 then insT x (cutT a b t) else cutT a b t
  | [], _ => by
    show cutT a b [x] = _
    rw [cutT_c]
    rfl
  | y :: t, hs => by
    have h1 := List.pairwise_cons.1 hs
    have ih := cutT_insT (a := a) (b := b) x (t := t) h1.2
    have hgt : ∀ z ∈ cutT a b t, y.1 < z.1 := fun z hz => h1.1 z (cutT_sub.mem hz)
    rw [insT_c]
    by_cases h2 : y.1 < x.1
    · rw [if_pos h2, cutT_c, cutT_c, ih]
      by_cases hy : y.1 < a ∨ b ≤ y.1
      · rw [if_pos hy, if_pos hy]
        by_cases hx : x.1 < a ∨ b ≤ x.1
        · rw [if_pos hx, if_pos hx, insT_c, if_pos h2]
        · rw [if_neg hx, if_neg hx]
      · rw [if_neg hy, if_neg hy]
    · rw [if_neg h2]
      by_cases h3 : y.1 = x.1
      · rw [if_pos h3, cutT_c, cutT_c, h3]
        by_cases hx : x.1 < a ∨ b ≤ x.1
        · rw [if_pos hx, if_pos hx, if_pos hx, insT_c, if_neg h2, if_pos h3]
        · rw [if_neg hx, if_neg hx, if_neg hx]
      · rw [if_neg h3, cutT_c]
        have hlt : ∀ z ∈ cutT a b (y :: t), x.1 < z.1 := fun z hz => by
          rcases List.mem_cons.1 (cutT_sub.mem hz) with rfl | hz
          · omega
          · have := h1.1 z hz; omega
        rw [insT_lt hlt]
set_option maxRecDepth 8000 in
set_option maxHeartbeats 16000000 in
theorem cuts_walk (a : Option Addr) (len cap : Nat) (lo up : Int) (w : World) (hin : IntsIn w a len) (hup : (Lit.int .i64 up).wf = true) (hT : TabAt w) :
    Calls Tryd.prog 7 #[.slice a len cap, .int .i64 lo, .int .i64 up] w fun e w' => e = .returned (.bool true) ∧ Below w.heap.size w w' := by
  obtain ⟨ls, hin⟩ := hin
  have HIN := Lib.hid hin
  have HT := Lib.hid hT
  obtain ⟨u1, u2⟩ := i64_bounds hup
  clear hin hT hup
  go_enter Tryd.func7, Tryd.ntmps7
  go_wp2_with fail
  refine (awake_any _ HT.out).mono ?_
  rintro e w1 ⟨rfl, ht⟩
  have HT1 := Lib.hid ht
  clear ht
  go_wp2_with fail
  refine (one_new w _ HT1.out).mono ?_
  rintro e w2 ⟨l, rfl, h, ht⟩
  have HQ2 := Lib.hid h
  clear h ht HT1
  go_wp2_with fail
  refine (two_new w _ HQ2.out).mono ?_
  rintro e w3 ⟨p, rfl, h⟩
  have HQ3 := Lib.hid h
  clear h HQ2
  go_wp2_with fail
  go_loopg [9] 40 (fun k v9 wr => ∃ (i : Nat) (t : List (Int × Int)), v9 = .int .i64 (i : Int) ∧ Hid (k + i = 40 ∧ i ≤ len ∧ SortedT t ∧ t.length ≤ i ∧ Two w wr l p t (cutT lo up t)))
  case atStart => exact ⟨0, [], rfl, rfl, Nat.zero_le _, List.Pairwise.nil, Nat.le_refl _, HQ3.out⟩
  case round =>
    obtain ⟨i, t, rfl, hi⟩ := hrel
    clear HQ3
    have hi0 := hi.out.1
    have htl := hi.out.2.2.2.1
    have hcl : (cutT lo up t).length ≤ t.length := cutT_sub.length_le
    by_cases hlt : i < len ∧ i < 40
    · have b1 : decide ((i : Int) < (len : Int)) = true := by simp; omega
      have b1n : decide (i < len) = true := by simp; omega
      have b2 : decide ((i : Int) < (40 : Int)) = true := by simp; omega
      have b2n : decide (i < 40) = true := by simp; omega
      have hw : wrap64 ((i : Int) + 1) = (i : Int) + 1 := IntWalk.wrap64_in _ ⟨by omega, by omega⟩
      obtain ⟨hv, ad, rfl, c0⟩ := HIN.out.2 i hlt.1
      have C0 : Hid (∀ {W}, Turn Nope w W → W.cell? (ad.add i) = some (.int .i64 (ls i))) := fun h => cell_later h.nopeBelow c0
      have c0 := C0.out hi.out.2.2.2.2.turn
      have i0 : (0 : Int) ≤ (i : Int) := by omega
      have i1 : (i : Int) < (len : Int) := by omega
      have hl1 := hlt.1
      have hl2 := hlt.2
      have HCI := Lib.hid (cutT_insT (a := lo) (b := up) (ls i, (i : Int)) hi.out.2.2.1)
      have HSO := Lib.hid (insT_sorted (ls i, (i : Int)) hi.out.2.2.1)
      have HLE := Lib.hid (insT_len (ls i, (i : Int)) t)
      clear hlt
      go_wp2_with fail
      refine (two_put hi.out.2.2.2.2 HT.out (ls i) hv.2 (by omega) (i : Int)).mono ?_
      rintro e w4 ⟨rfl, h4⟩
      have H4 := Lib.hid h4
      clear h4 c0
      have c0 := C0.out H4.out.turn
      by_cases h1 : ls i < lo
      · have q1 : decide (ls i < lo) = true := by simpa using h1
        have HX : Hid (cutT lo up (insT (ls i, (i : Int)) t) = insT (ls i, (i : Int)) (cutT lo up t)) := HCI.out.trans (if_pos (.inl h1))
        clear h1
        go_wp2_with fail
        refine (two_put H4.out.flip HT.out (ls i) hv.2 (by omega) (i : Int)).mono ?_
        rintro e w5 ⟨rfl, h5⟩
        have H5 := Lib.hid h5.flip
        clear h5
        go_wp2_with fail
        go_roundg (39 - i)
        case measure => omega
        case rel => exact ⟨i + 1, insT (ls i, (i : Int)) t, by go_num, by omega, by omega, HSO.out, by have := HLE.out; omega, by rw [HX.out]; exact H5.out⟩
      · have q1 : decide (ls i < lo) = false := by simpa using h1
        by_cases h2 : up ≤ ls i
        · have q2 : decide (ls i ≥ up) = true := by simpa using h2
          have q2' : decide (up ≤ ls i) = true := by simpa using h2
          have HX : Hid (cutT lo up (insT (ls i, (i : Int)) t) = insT (ls i, (i : Int)) (cutT lo up t)) := HCI.out.trans (if_pos (.inr h2))
          clear h1 h2
          go_wp2_with fail
          refine (two_put H4.out.flip HT.out (ls i) hv.2 (by omega) (i : Int)).mono ?_
          rintro e w5 ⟨rfl, h5⟩
          have H5 := Lib.hid h5.flip
          clear h5
          go_wp2_with fail
          go_roundg (39 - i)
          case measure => omega
          case rel => exact ⟨i + 1, insT (ls i, (i : Int)) t, by go_num, by omega, by omega, HSO.out, by have := HLE.out; omega, by rw [HX.out]; exact H5.out⟩
        · have q2 : decide (ls i ≥ up) = false := by simp; omega
          have q2' : decide (up ≤ ls i) = false := by simp; omega
          have HX : Hid (cutT lo up (insT (ls i, (i : Int)) t) = cutT lo up t) := HCI.out.trans (if_neg (by simp; omega))
          clear h1 h2
          go_wp2_with fail
          go_roundg (39 - i)
          case measure => omega
          case rel => exact ⟨i + 1, insT (ls i, (i : Int)) t, by go_num, by omega, by omega, HSO.out, by have := HLE.out; omega, by rw [HX.out]; exact H4.out⟩
    · have HQ4 := Lib.hid hi.out.2.2.2.2
      have hex : (i < len ∧ i = 40) ∨ i = len := by have := hi.out.2.1; omega
      have h40 : t.length ≤ 40 := by omega
      clear hi hlt hi0 htl
      rcases hex with ⟨h1, h2⟩ | h1
      · have b1 : decide ((i : Int) < (len : Int)) = true := by simp; omega
        have b1n : decide (i < len) = true := by simp; omega
        have b2 : decide ((i : Int) < (40 : Int)) = false := by simp; omega
        have b2n : decide (i < 40) = false := by simp; omega
        clear h1 h2
        have p1 : decide (((t.length : Int) - ((cutT lo up t).length : Int)) < 0) = false := by simp; omega
        have p2 : ((((cutT lo up t).length : Int) - ((cutT lo up t).length : Int)) != 0) = false := by simp
        have p3 : (((cutT lo up t).length : Int) != ((cutT lo up t).length : Int)) = false := by simp
        have HTW := Lib.hid (cutT_twice lo up t)
        go_wp2_with fail
        refine (two_cut HQ4.out (by omega) lo up).mono ?_
        rintro e w5 ⟨rfl, h5⟩
        have H5 := Lib.hid h5
        clear h5 HQ4
        obtain ⟨z, hz⟩ : ∃ z, (t.length : Int) - ((cutT lo up t).length : Int) = z := ⟨_, rfl⟩
        rw [hz] at p1 ⊢
        have HZ := Lib.hid hz
        clear hz
        go_wp2_with fail
        refine (two_cut H5.out (by omega) lo up).mono ?_
        rw [HTW.out]
        rintro e w6 ⟨rfl, h6⟩
        have H6 := Lib.hid h6
        clear h6 H5
        go_wp2_with fail
        refine (two_len H6.out).mono ?_
        rintro e w7 ⟨rfl, rfl⟩
        go_wp2_with fail
        refine (two_len H6.out.flip).mono ?_
        rintro e w8 ⟨rfl, rfl⟩
        go_wp2_with fail
        go_loopg [11, 77] 10 (fun k v11 v77 wr => ∃ (m : Nat), v77 = .int .i64 (m : Int) ∧ Hid (k + m = 10 ∧ Two w wr l p (cutT lo up t) (cutT lo up t)))
        case atStart => exact ⟨0, rfl, rfl, H6.out⟩
        case round =>
          obtain ⟨m, rfl, hm⟩ := hrel
          clear H6 p1 p2 p3 b1 b1n b2 b2n
          have hm0 := hm.out.1
          by_cases hlt : m < 10
          · have d1 : decide ((m : Int) < 10) = true := by simp; omega
            have d1n : decide (m < 10) = true := by simp; omega
            have hw : wrap64 ((m : Int) + 1) = (m : Int) + 1 := IntWalk.wrap64_in _ ⟨by omega, by omega⟩
            have HLL : Hid ((levelT m (cutT lo up t)).length ≤ 1000000) := by
              have h1 : (levelT m (cutT lo up t)).length ≤ (cutT lo up t).length := by unfold levelT; rw [List.length_map]; exact List.length_filter_le _ _
              exact (by omega : (levelT m (cutT lo up t)).length ≤ 1000000)
            go_wp2_with fail
            refine (two_level hm.out.2 (by omega) m hlt).mono ?_
            rintro e w5 ⟨v1, rfl, hr1, h5, _⟩
            have H5 := Lib.hid h5
            have HR1 := Lib.hid hr1
            obtain ⟨A1, c1, rfl, _⟩ := own_slice hr1
            clear h5 hr1
            go_wp2_with fail
            refine (two_level H5.out.flip (by omega) m hlt).mono ?_
            rintro e w6 ⟨v2, rfl, hr2, h6, ht6⟩
            have H6 := Lib.hid h6.flip
            have HR2 := Lib.hid hr2
            have HR1' := Lib.hid (own_nope HR1.out ht6)
            obtain ⟨A2, c2, rfl, _⟩ := own_slice hr2
            clear h6 hr2 ht6 HR1
            go_wp2_with fail
            refine (same_any HR1'.out HR2.out HLL.out).mono ?_
            rintro e w7 ⟨rfl, ht7⟩
            have H7 := Lib.hid (H6.out.nope ht7)
            clear ht7 H6 H5 HR1' HR2
            go_wp2_with fail
            go_roundg (10 - (m + 1))
            case measure => omega
            case rel => exact ⟨m + 1, by go_num, by omega, H7.out⟩
          · obtain rfl : m = 10 := by omega
            have d1 : decide (((10 : Nat) : Int) < 10) = false := by simp
            have d1' : decide ((10 : Int) < 10) = false := by simp
            have HQ5 := Lib.hid hm.out.2
            clear hm hm0 hlt
            by_cases hmin : up = -9223372036854775808
            · have q1 : (up == -9223372036854775808) = true := by simpa using hmin
              clear hmin
              go_wp2_with fail
              refine (two_floor HQ5.out _).mono ?_
              rintro e w8 ⟨rfl, h8⟩
              have H8 := Lib.hid h8
              clear h8
              obtain ⟨r1, r2, r3, hr⟩ : ∃ r1 r2 r3, floorR (floorT (wrap64 (up - 1)) (cutT lo up t)) = .tuple #[.int .i64 r1, .int .i64 r2, .bool r3] := by
                cases floorT (wrap64 (up - 1)) (cutT lo up t) with
                | none => exact ⟨_, _, _, rfl⟩
                | some r => exact ⟨_, _, _, rfl⟩
              rw [hr]
              clear hr
              go_wp2_with fail
              go_ret
              exact ⟨rfl, H8.out.turn.nopeBelow⟩
            · have q1 : (up == -9223372036854775808) = false := by simpa using hmin
              cases hf : floorT (wrap64 (up - 1)) (cutT lo up t) with
              | none =>
                have HR : Hid (floorR (floorT (wrap64 (up - 1)) (cutT lo up t)) = .tuple #[.int .i64 0, .int .i64 0, .bool false]) := by show _ = _; rw [hf]; rfl
                clear hmin hf
                go_wp2_with fail
                refine (two_floor HQ5.out _).mono ?_
                rw [HR.out]
                rintro e w8 ⟨rfl, h8⟩
                have H8 := Lib.hid h8
                clear h8
                go_wp2_with fail
                go_ret
                exact ⟨rfl, H8.out.turn.nopeBelow⟩
              | some r =>
                have HR : Hid (floorR (floorT (wrap64 (up - 1)) (cutT lo up t)) = .tuple #[.int .i64 r.1, .int .i64 r.2, .bool true]) := by show _ = _; rw [hf]; rfl
                have hr : r.1 < lo := by
                  have h1 := List.mem_filter.1 (List.mem_of_getLast? hf)
                  have h2 : r.1 ≤ wrap64 (up - 1) := by simpa using h1.2
                  have h3 := (List.mem_filter.1 h1.1).2
                  have h4 : r.1 < lo ∨ up ≤ r.1 := by simpa using h3
                  have h5 : wrap64 (up - 1) = up - 1 := IntWalk.wrap64_in _ ⟨by omega, by omega⟩
                  omega
                have q2 : decide (r.1 < lo) = true := by simpa using hr
                clear hmin hf hr
                go_wp2_with fail
                refine (two_floor HQ5.out _).mono ?_
                rw [HR.out]
                rintro e w8 ⟨rfl, h8⟩
                have H8 := Lib.hid h8
                clear h8
                go_wp2_with fail
                go_ret
                exact ⟨rfl, H8.out.turn.nopeBelow⟩
      · have b1 : decide ((i : Int) < (len : Int)) = false := by simp; omega
        have b1n : decide (i < len) = false := by simp; omega
        clear h1
        have p1 : decide (((t.length : Int) - ((cutT lo up t).length : Int)) < 0) = false := by simp; omega
        have p2 : ((((cutT lo up t).length : Int) - ((cutT lo up t).length : Int)) != 0) = false := by simp
        have p3 : (((cutT lo up t).length : Int) != ((cutT lo up t).length : Int)) = false := by simp
        have HTW := Lib.hid (cutT_twice lo up t)
        go_wp2_with fail
        refine (two_cut HQ4.out (by omega) lo up).mono ?_
        rintro e w5 ⟨rfl, h5⟩
        have H5 := Lib.hid h5
        clear h5 HQ4
        obtain ⟨z, hz⟩ : ∃ z, (t.length : Int) - ((cutT lo up t).length : Int) = z := ⟨_, rfl⟩
        rw [hz] at p1 ⊢
        have HZ := Lib.hid hz
        clear hz
        go_wp2_with fail
        refine (two_cut H5.out (by omega) lo up).mono ?_
        rw [HTW.out]
        rintro e w6 ⟨rfl, h6⟩
        have H6 := Lib.hid h6
        clear h6 H5
        go_wp2_with fail
        refine (two_len H6.out).mono ?_
        rintro e w7 ⟨rfl, rfl⟩
        go_wp2_with fail
        refine (two_len H6.out.flip).mono ?_
        rintro e w8 ⟨rfl, rfl⟩
        go_wp2_with fail
        go_loopg [11, 77] 10 (fun k v11 v77 wr => ∃ (m : Nat), v77 = .int .i64 (m : Int) ∧ Hid (k + m = 10 ∧ Two w wr l p (cutT lo up t) (cutT lo up t)))
        case atStart => exact ⟨0, rfl, rfl, H6.out⟩
        case round =>
          obtain ⟨m, rfl, hm⟩ := hrel
          clear H6 p1 p2 p3 b1 b1n
          have hm0 := hm.out.1
          by_cases hlt : m < 10
          · have d1 : decide ((m : Int) < 10) = true := by simp; omega
            have d1n : decide (m < 10) = true := by simp; omega
            have hw : wrap64 ((m : Int) + 1) = (m : Int) + 1 := IntWalk.wrap64_in _ ⟨by omega, by omega⟩
            have HLL : Hid ((levelT m (cutT lo up t)).length ≤ 1000000) := by
              have h1 : (levelT m (cutT lo up t)).length ≤ (cutT lo up t).length := by unfold levelT; rw [List.length_map]; exact List.length_filter_le _ _
              exact (by omega : (levelT m (cutT lo up t)).length ≤ 1000000)
            go_wp2_with fail
            refine (two_level hm.out.2 (by omega) m hlt).mono ?_
            rintro e w5 ⟨v1, rfl, hr1, h5, _⟩
            have H5 := Lib.hid h5
            have HR1 := Lib.hid hr1
            obtain ⟨A1, c1, rfl, _⟩ := own_slice hr1
            clear h5 hr1
            go_wp2_with fail
            refine (two_level H5.out.flip (by omega) m hlt).mono ?_
            rintro e w6 ⟨v2, rfl, hr2, h6, ht6⟩
            have H6 := Lib.hid h6.flip
            have HR2 := Lib.hid hr2
            have HR1' := Lib.hid (own_nope HR1.out ht6)
            obtain ⟨A2, c2, rfl, _⟩ := own_slice hr2
            clear h6 hr2 ht6 HR1
            go_wp2_with fail
            refine (same_any HR1'.out HR2.out HLL.out).mono ?_
            rintro e w7 ⟨rfl, ht7⟩
            have H7 := Lib.hid (H6.out.nope ht7)
            clear ht7 H6 H5 HR1' HR2
            go_wp2_with fail
            go_roundg (10 - (m + 1))
            case measure => omega
            case rel => exact ⟨m + 1, by go_num, by omega, H7.out⟩
          · obtain rfl : m = 10 := by omega
            have d1 : decide (((10 : Nat) : Int) < 10) = false := by simp
            have d1' : decide ((10 : Int) < 10) = false := by simp
            have HQ5 := Lib.hid hm.out.2
            clear hm hm0 hlt
            by_cases hmin : up = -9223372036854775808
            · have q1 : (up == -9223372036854775808) = true := by simpa using hmin
              clear hmin
              go_wp2_with fail
              refine (two_floor HQ5.out _).mono ?_
              rintro e w8 ⟨rfl, h8⟩
              have H8 := Lib.hid h8
              clear h8
              obtain ⟨r1, r2, r3, hr⟩ : ∃ r1 r2 r3, floorR (floorT (wrap64 (up - 1)) (cutT lo up t)) = .tuple #[.int .i64 r1, .int .i64 r2, .bool r3] := by
                cases floorT (wrap64 (up - 1)) (cutT lo up t) with
                | none => exact ⟨_, _, _, rfl⟩
                | some r => exact ⟨_, _, _, rfl⟩
              rw [hr]
              clear hr
              go_wp2_with fail
              go_ret
              exact ⟨rfl, H8.out.turn.nopeBelow⟩
            · have q1 : (up == -9223372036854775808) = false := by simpa using hmin
              cases hf : floorT (wrap64 (up - 1)) (cutT lo up t) with
              | none =>
                have HR : Hid (floorR (floorT (wrap64 (up - 1)) (cutT lo up t)) = .tuple #[.int .i64 0, .int .i64 0, .bool false]) := by show _ = _; rw [hf]; rfl
                clear hmin hf
                go_wp2_with fail
                refine (two_floor HQ5.out _).mono ?_
                rw [HR.out]
                rintro e w8 ⟨rfl, h8⟩
                have H8 := Lib.hid h8
                clear h8
                go_wp2_with fail
                go_ret
                exact ⟨rfl, H8.out.turn.nopeBelow⟩
              | some r =>
                have HR : Hid (floorR (floorT (wrap64 (up - 1)) (cutT lo up t)) = .tuple #[.int .i64 r.1, .int .i64 r.2, .bool true]) := by show _ = _; rw [hf]; rfl
                have hr : r.1 < lo := by
                  have h1 := List.mem_filter.1 (List.mem_of_getLast? hf)
                  have h2 : r.1 ≤ wrap64 (up - 1) := by simpa using h1.2
                  have h3 := (List.mem_filter.1 h1.1).2
                  have h4 : r.1 < lo ∨ up ≤ r.1 := by simpa using h3
                  have h5 : wrap64 (up - 1) = up - 1 := IntWalk.wrap64_in _ ⟨by omega, by omega⟩
                  omega
                have q2 : decide (r.1 < lo) = true := by simpa using hr
                clear hmin hf hr
                go_wp2_with fail
                refine (two_floor HQ5.out _).mono ?_
                rw [HR.out]
                rintro e w8 ⟨rfl, h8⟩
                have H8 := Lib.hid h8
                clear h8
                go_wp2_with fail
                go_ret
                exact ⟨rfl, H8.out.turn.nopeBelow⟩
end Go.Proofs.YtdkojpfhmohaeaaDoor
