/- What each has to do comes in its order: the walk of SchedAgenda. -/
import Derived.Test.YtdojdhpfhjhmfaaAw
import Derived.Deep.CutBlock
set_option maxRecDepth 16000
set_option linter.unusedVariables false
set_option linter.unusedSimpArgs false
namespace Go.Proofs.Ytdojdhpfhjhmfaa
open Go.RowKit Go.Maps
/-- In the middle of the takes. -/
structure TakeW (w0 w : World) (a mb mb2 m n : Nat) (vL : Value) (L : List Int) (D D2 : DataW Value) (V V2 : Int → Value) (A A2 : Int → List ByteArray) (K : List Int) : Prop where
  ag : Ag w0 w a mb m D V A
  wn : Wn w0 w mb2 n D2 V2 A2 K
  row : w.ownsRow w0.heap.size 3 1 vL L.length (nums L)
  le : ∀ x, (A2 x).length ≤ 40
  ne : mb ≠ mb2
theorem TakeW.nope {w0 w w' : World} {a mb mb2 m n : Nat} {vL : Value} {L : List Int} {D D2 : DataW Value} {V V2 : Int → Value} {A A2 : Int → List ByteArray} {K : List Int} (h : TakeW w0 w a mb mb2 m n vL L D D2 V V2 A A2 K) (ht : Turn Nope w w') : TakeW w0 w' a mb mb2 m n vL L D D2 V V2 A A2 K :=
  ⟨h.ag.nope ht, h.wn.nope ht, own_nope h.row ht, h.le, h.ne⟩
theorem TakeW.took {w0 w w' : World} {a mb mb2 m m' n : Nat} {vL : Value} {L : List Int} {D D' D2 : DataW Value} {V V' V2 : Int → Value} {A A' A2 : Int → List ByteArray} {K : List Int} (h : TakeW w0 w a mb mb2 m n vL L D D2 V V2 A A2 K) (ha : Ag w0 w' a mb m' D' V' A') (ht : Turn (At mb) w w') : TakeW w0 w' a mb mb2 m' n vL L D' D2 V' V2 A' A2 K := by
  obtain ⟨es, clock, hb⟩ := h.ag.map.blk
  exact ⟨ha, h.wn.atMap hb h.ne ht, own_turn h.row ht fun k hk e => row_map h.row hb k hk e, h.le, h.ne⟩
theorem lt_nodup {L : List Int} (h : L.Pairwise (fun x y => x < y)) : L.Nodup := h.imp fun {a b} hab e => by subst e; omega
theorem same_length {L K : List Int} (hL : L.Nodup) (hK : K.Nodup) (h : ∀ x, x ∈ L ↔ x ∈ K) : L.length = K.length :=
  (List.perm_iff_count.2 fun x => by
    rw [hL.count, hK.count]
    by_cases hx : x ∈ L
    · rw [if_pos hx, if_pos ((h x).1 hx)]
    · rw [if_neg hx, if_neg fun e => hx ((h x).2 e)]).length_eq
theorem drop_cons {l : List ByteArray} {j : Nat} {s : ByteArray} (h : l[j]? = some s) : l.drop j = s :: l.drop (j + 1) := by
  obtain ⟨h1, rfl⟩ := List.getElem?_eq_some_iff.1 h
  exact List.drop_eq_getElem_cons h1
theorem took_next {L : List Int} {i : Nat} {x : Int} (h : L[i]? = some x) : L.take (i + 1) = L.take i ++ [x] := by
  rw [List.take_add_one, h]; rfl
theorem not_took {L : List Int} (hp : L.Pairwise (fun x y => x < y)) {i : Nat} {x : Int} (h : L[i]? = some x) : x ∉ L.take i := by
  intro hx
  obtain ⟨k, hk⟩ := List.getElem?_of_mem hx
  have hki : k < i := by
    have := (List.getElem?_eq_some_iff.1 hk).1
    rw [List.length_take] at this; omega
  rw [List.getElem?_take_of_lt hki] at hk
  obtain ⟨h1, e1⟩ := List.getElem?_eq_some_iff.1 hk
  obtain ⟨h2, e2⟩ := List.getElem?_eq_some_iff.1 h
  have := List.pairwise_iff_getElem.1 hp k i h1 h2 hki
  omega
theorem lt_at {L : List Int} (h : L.Pairwise (fun x y => x < y)) {i j : Nat} {x y : Int} (hj : L[j]? = some y) (hi : L[i]? = some x) (hji : j < i) : y < x := by
  obtain ⟨h1, rfl⟩ := List.getElem?_eq_some_iff.1 hj
  obtain ⟨h2, rfl⟩ := List.getElem?_eq_some_iff.1 hi
  exact List.pairwise_iff_getElem.1 h j i h1 h2 hji
set_option maxHeartbeats 16000000 in
theorem agenda_walk (p : Option Addr) (len cap : Nat) (b : Option Addr) (lenb capb : Nat) (w : World) (hin : IntsIn w p len ∧ len ≤ cap) (hst : StrsIn w b lenb) :
    Calls Try.prog 7 #[.slice p len cap, .slice b lenb capb] w fun e w' => e = .returned (.bool true) ∧ Below w.heap.size w w' := by
  have HIN := Lib.hid hin.1
  have HST := Lib.hid hst
  clear hin hst
  obtain ⟨i9, hi9, hz9, hs9, hb9⟩ := info_parts Try.info9
  have I9 := Lib.hid (And.intro hi9 (And.intro hz9 (And.intro hs9 hb9)))
  clear hi9 hz9 hs9 hb9
  go_enter Try.func7, Try.ntmps7
  go_wp2_with fail
  refine (awake_any _).mono ?_
  rintro e w1 ⟨rfl, ht⟩
  have HT1 := Lib.hid ht
  clear ht
  go_wp2_with fail
  refine (ag_new w w1 HT1.out).mono ?_
  rintro e w2 ⟨a, mb, rfl, hag, ht⟩
  have HA2 := Lib.hid hag
  have HT2 := Lib.hid (HT1.out.trans ht)
  clear hag ht HT1
  have hmp := make_map
  go_upto_region 5 with fail
  clear hmp
  have HW0 : Hid (AW w (w2.alloc (.map #[] 0)) a mb w2.heap.size 0 (.map []) (.map []) (fun _ => .slice none 0 0) (fun _ => .slice none 0 0) (fun _ => []) []) :=
    ⟨HA2.out.nope ((Turn.refl _ _).alloc _), wn_new w w2 HT2.out.size, (by have := HA2.out.map.1.lt; omega), fun x _ k hk => by simp [Value.ownBlock] at hk, fun x => Nat.le_refl _⟩
  generalize w2.alloc (.map #[] 0) = w3 at HW0 ⊢
  generalize w2.heap.size = mb2 at HW0 ⊢
  clear HA2 HT2
  go_upto_block 0 with fail
  go_cut [7, 8] from 24 to 66 (fun v7 v8 wr => ∃ (i : Nat) (D D2 : DataW Value) (V V2 : Int → Value) (A : Int → List ByteArray) (K : List Int), Hid (i ≤ 40 ∧ AW w wr a mb mb2 i D D2 V V2 A K))
  case first =>
    go_wp2_with fail
    go_loopg [7] 40 (fun k v7 wr => ∃ (i : Nat) (D D2 : DataW Value) (V V2 : Int → Value) (A : Int → List ByteArray) (K : List Int), v7 = .int .i64 (i : Int) ∧ Hid (k + i = 40) ∧ Hid (AW w wr a mb mb2 i D D2 V V2 A K))
    case atStart => exact ⟨0, _, _, _, _, _, _, rfl, rfl, HW0.out⟩
    case round =>
      obtain ⟨i, D, D2, V, V2, A, K, rfl, hk, hW⟩ := hrel
      clear HW0
      have hw : wrap64 ((i : Int) + 1) = (i : Int) + 1 := IntWalk.wrap64_in _ ⟨by have := hk.out; omega, by have := hk.out; omega⟩
      have HWR := Lib.hid hw
      clear hw
      by_cases h1 : i < len
      · have b1 : decide ((i : Int) < (len : Int)) = true := by simp; omega
        have b1n : decide (i < len) = true := by simp; omega
        by_cases h2 : i < lenb
        · have b2 : decide ((i : Int) < (lenb : Int)) = true := by simp; omega
          have b2n : decide (i < lenb) = true := by simp; omega
          by_cases h3 : i < 40
          · have b3 : decide ((i : Int) < 40) = true := by simp; omega
            have b3n : decide (i < 40) = true := by simp; omega
            obtain ⟨hmx, ps, hps, hA, hwf⟩ := HIN.out
            obtain ⟨x, hx⟩ : ∃ x, ps[i]? = some x := ⟨_, List.getElem?_eq_getElem (by omega)⟩
            have HXW := Lib.hid (hwf x (List.mem_of_getElem? hx))
            obtain ⟨ad, rfl, cx⟩ := hA i x hx
            obtain ⟨hmy, ts, hts, hB⟩ := HST.out
            obtain ⟨t, ht⟩ : ∃ t, ts[i]? = some t := ⟨_, List.getElem?_eq_getElem (by omega)⟩
            obtain ⟨bd, rfl, cy, hyt⟩ := hB i t ht
            have CELL : Hid (∀ W, Turn Nope w W → W.cell? (ad.add i) = some (.int .i64 x) ∧ W.cell? (bd.add i) = some (.string t)) := fun W h => ⟨cell_later h.nopeBelow cx, cell_later h.nopeBelow cy⟩
            clear cx cy hyt ht hB hts hx hwf hA hps hmx hmy
            obtain ⟨cx, cy⟩ := CELL.out _ hW.out.ag.turn
            have i0 : (0 : Int) ≤ (i : Int) := by omega
            have i1 : (i : Int) < (len : Int) := by omega
            have i2 : (i : Int) < (lenb : Int) := by omega
            have HI40 := Lib.hid h3
            clear h1 h2 h3
            go_wp2_with fail
            refine (cut_any t 10 (by omega) _).mono ?_
            rintro e w4 ⟨rfl, rfl⟩
            obtain ⟨sx, hsx⟩ : ∃ sx, cutP t 10 = sx := ⟨_, rfl⟩
            rw [hsx]
            clear hsx
            go_wp2_with fail
            have hi40 := HI40.out
            refine (ag_add2 (hW.out.ag.nope ((Turn.refl _ _).alloc (.cells #[.string sx] 9))) (by omega) HXW.out ⟨w4.heap.size, 0, none⟩ 1 1 [sx] rfl (by omega) (by omega) (by have := hW.out.cnt x; omega) (fun j s hj => ?_)).mono ?_
            · cases j with
              | zero =>
                simp only [List.getElem?_cons_zero, Option.some.injEq] at hj
                rw [← hj, show (⟨w4.heap.size, 0, none⟩ : Addr).add 0 = ⟨w4.heap.size, 0, none⟩ from rfl, blk_cell (blk_new _ _)]
                rfl
              | succ j => simp at hj
            rintro e w5 ⟨rfl, ⟨D', v, hag, hv⟩, ht⟩
            have HX5 := Lib.hid ((hW.out.nope ((Turn.refl _ _).alloc (.cells #[.string sx] 9))).added HXW.out hag hv ht)
            clear hag hv ht cx cy
            obtain ⟨vA, hvA⟩ : ∃ vA, (A x).length = vA := ⟨_, rfl⟩
            have HVA : Hid ((A x).length = vA ∧ vA ≤ 40) := by have := HX5.out.cnt x; exact ⟨hvA, by omega⟩
            clear hvA hi40
            have cx0 := (CELL.out w5.drew (HX5.out.ag.turn.trans (Turn.refl _ _).drew)).1
            have lk := fun o => (HX5.out.nope (((Turn.refl _ _).alloc o).drew)).wn.map.look HXW.out
            have lk0 := (HX5.out.nope (Turn.refl _ _).drew).wn.map.look HXW.out
            have hkey := keyOf_int_mk Try.underlying3 HXW.out
            go_upto_region 10 with (fail)
            refine wp_region_held_drew (S := fun W => W.cell? (ad.add i) = some (.int .i64 x)) (by kernel_rfl) cx0 (fun hHeld => ?_)
            refine' wpAnyH_take (i := 0) (v := _) (by simp only [List.getElem?_toArray, List.getElem?_cons_succ, List.getElem?_cons_zero]; rfl) (by kernel_rfl) (by kernel_rfl) (by kernel_rfl) (by intro _ _ _ h; exact h) (Or.inl ⟨by rfl, ?hyg0⟩) hHeld ?restg0
            case hyg0 => (intro w hSw; (try dsimp only at hSw); go_simp; try (with_reducible rfl))
            simp only [Act.put, List.setIfInBounds_toArray, List.set_cons_zero, List.set_cons_succ]
            refine' wpAnyH_take (i := 1) (v := _) (by simp only [List.getElem?_toArray, List.getElem?_cons_succ, List.getElem?_cons_zero]; rfl) (by kernel_rfl) (by kernel_rfl) (by kernel_rfl) (by intro _ _ _ h; exact h) (Or.inl ⟨by rfl, ?hyg1⟩) hHeld ?restg1
            case hyg1 => (intro w hSw; (try dsimp only at hSw); go_simp; try (with_reducible rfl))
            simp only [Act.put, List.setIfInBounds_toArray, List.set_cons_zero, List.set_cons_succ]
            refine' wpAnyH_take (i := 2) (v := _) (by simp only [List.getElem?_toArray, List.getElem?_cons_succ, List.getElem?_cons_zero]; rfl) (by kernel_rfl) (by kernel_rfl) (by kernel_rfl) (by intro _ _ _ h; exact h) (Or.inl ⟨by rfl, ?hyg2⟩) hHeld ?restg2
            case hyg2 => (intro w hSw; (try dsimp only at hSw); go_simp; try (with_reducible rfl))
            simp only [Act.put, List.setIfInBounds_toArray, List.set_cons_zero, List.set_cons_succ]
            refine' wpAnyH_take (i := 3) (v := _) (by simp only [List.getElem?_toArray, List.getElem?_cons_succ, List.getElem?_cons_zero]; rfl) (by kernel_rfl) (by kernel_rfl) (by kernel_rfl) (by intro _ _ _ h; exact h) (Or.inl ⟨by rfl, ?hyg3⟩) hHeld ?restg3
            case hyg3 => (intro w hSw; (try dsimp only at hSw); go_simp; try (with_reducible rfl))
            simp only [Act.put, List.setIfInBounds_toArray, List.set_cons_zero, List.set_cons_succ]
            refine' wpAnyH_take (i := 4) (v := _) (by simp only [List.getElem?_toArray, List.getElem?_cons_succ, List.getElem?_cons_zero]; rfl) (by kernel_rfl) (by kernel_rfl) (by kernel_rfl) (by intro _ _ _ h; exact h) (Or.inl ⟨by rfl, ?hyg4⟩) hHeld ?restg4
            case hyg4 => (intro w hSw; (try dsimp only at hSw); go_simp; try (with_reducible rfl))
            simp only [Act.put, List.setIfInBounds_toArray, List.set_cons_zero, List.set_cons_succ]
            refine' wpAnyH_take (i := 5) (v := _) (by simp only [List.getElem?_toArray, List.getElem?_cons_succ, List.getElem?_cons_zero]; rfl) (by kernel_rfl) (by kernel_rfl) (by kernel_rfl) (by intro _ _ _ h; exact h) (Or.inl ⟨by rfl, ?hyg5⟩) hHeld ?restg5
            case hyg5 => (intro w hSw; (try dsimp only at hSw); go_simp; try (with_reducible rfl))
            simp only [Act.put, List.setIfInBounds_toArray, List.set_cons_zero, List.set_cons_succ]
            refine' wpAnyH_take (i := 6) (v := _) (by simp only [List.getElem?_toArray, List.getElem?_cons_succ, List.getElem?_cons_zero]; rfl) (by kernel_rfl) (by kernel_rfl) (by kernel_rfl) (by intro _ _ _ h; exact h) (Or.inl ⟨by rfl, ?hyg6⟩) hHeld ?restg6
            case hyg6 => (intro w hSw; (try dsimp only at hSw); go_simp; try (with_reducible rfl))
            simp only [Act.put, List.setIfInBounds_toArray, List.set_cons_zero, List.set_cons_succ]
            refine' wpAnyH_take (i := 7) (v := _) (by simp only [List.getElem?_toArray, List.getElem?_cons_succ, List.getElem?_cons_zero]; rfl) (by kernel_rfl) (by kernel_rfl) (by kernel_rfl) (by intro _ _ _ h; exact h) (Or.inl ⟨by rfl, ?hyg7⟩) hHeld ?restg7
            case hyg7 => (intro w hSw; (try dsimp only at hSw); go_simp; try (with_reducible rfl))
            simp only [Act.put, List.setIfInBounds_toArray, List.set_cons_zero, List.set_cons_succ]
            refine' wpAnyH_take (i := 8) (v := _) (by simp only [List.getElem?_toArray, List.getElem?_cons_succ, List.getElem?_cons_zero]; rfl) (by kernel_rfl) (by kernel_rfl) (by kernel_rfl) (by intro _ _ _ h; exact h) (Or.inl ⟨by rfl, ?hyg8⟩) hHeld ?restg8
            case hyg8 => (intro w hSw; (try dsimp only at hSw); go_simp; try (with_reducible rfl))
            simp only [Act.put, List.setIfInBounds_toArray, List.set_cons_zero, List.set_cons_succ]
            refine' wpAnyH_take (i := 9) (v := _) (by simp only [List.getElem?_toArray, List.getElem?_cons_succ, List.getElem?_cons_zero]; rfl) (by kernel_rfl) (by kernel_rfl) (by kernel_rfl) (by intro _ _ _ h; exact h) (Or.inl ⟨by rfl, ?hyg9⟩) hHeld ?restg9
            case hyg9 => (intro w hSw; (try dsimp only at hSw); go_simp; try (with_reducible rfl))
            simp only [Act.put, List.setIfInBounds_toArray, List.set_cons_zero, List.set_cons_succ]
            refine' wpAnyH_take (i := 11) (v := _) (by simp only [List.getElem?_toArray, List.getElem?_cons_succ, List.getElem?_cons_zero]; rfl) (by kernel_rfl) (by kernel_rfl) (by kernel_rfl) (by intro _ _ _ h; exact h) (Or.inl ⟨by rfl, ?hyg11⟩) hHeld ?restg11
            case hyg11 => (intro w hSw; (try dsimp only at hSw); go_simp; try (with_reducible rfl))
            simp only [Act.put, List.setIfInBounds_toArray, List.set_cons_zero, List.set_cons_succ]
            refine wpAnyH_ready (rs := [10, 12]) (by kernel_rfl) (by simp) (AllReadyH.cons (by simp only [List.getElem?_toArray, List.getElem?_cons_succ, List.getElem?_cons_zero]; rfl) (fun K hK => ?_) (AllReadyH.cons (by simp only [List.getElem?_toArray, List.getElem?_cons_succ, List.getElem?_cons_zero]; rfl) (fun K hK => ?_) AllReadyH.nil))
            · rw [if_pos (by rfl)]
              go_simp
              refine hK.out _ _ ?_ (fun hHeld => ?_)
              · exact (CELL.out _ (HX5.out.ag.turn.trans ((Turn.refl _ _).drew))).1
              clear hK K
              try simp only [Act.put, List.setIfInBounds_toArray, List.set_cons_zero, List.set_cons_succ]
              refine wpAnyH_ready (rs := [12]) (by kernel_rfl) (by simp) (AllReadyH.cons (by simp only [List.getElem?_toArray, List.getElem?_cons_succ, List.getElem?_cons_zero]; rfl) (fun K hK => ?_) AllReadyH.nil)
              rw [if_pos (by rfl)]
              go_simp
              refine hK.out _ _ ?_ (fun hHeld => ?_)
              · exact (CELL.out _ (HX5.out.ag.turn.trans ((Turn.refl _ _).drew.alloc _))).1
              clear hK K
              try simp only [Act.put, List.setIfInBounds_toArray, List.set_cons_zero, List.set_cons_succ]
              refine wpAnyH_ready (rs := [13]) (by kernel_rfl) (by simp) (AllReadyH.cons (by simp only [List.getElem?_toArray, List.getElem?_cons_succ, List.getElem?_cons_zero]; rfl) (fun K hK => ?_) AllReadyH.nil)
              refine step_append_lies _ rfl (.tmp 63) (.tmp 65) 53 rfl w.heap.size 9 i9 _ 1 16 Try.underlying53 I9.out.1 I9.out.2.1 I9.out.2.2.1 I9.out.2.2.2 rfl (by omega) (V2 x) vA (strs (A x)) rfl (by rw [← HVA.out.1]; exact (HX5.out.nope ((Turn.refl _ _).drew.alloc _)).wn.rows x HXW.out) ⟨w5.heap.size, 0, none⟩ 1 1 [.string sx] rfl rfl (news_new _ _ 9) (by intro u hu; simp at hu; subst hu; rfl) (by omega) (by have := HVA.out.2; show vA + 1 ≤ 9223372036854775807; omega) (by have := HVA.out.2; omega) (by have := HX5.out.ag.turn.size; simp; omega) (w5.heap.size + 1) (by simp) ?_
              intro g1 cap1 w6 hown hgr hat hlt
              have HO6 := Lib.hid (And.intro hown (And.intro hgr hat))
              have HT6 : Hid (Turn Nope w w6) := ((HX5.out.nope ((Turn.refl _ _).drew.alloc _)).ag.turn.grown hgr (fun k hk => .inr (own_base (HX5.out.wn.rows x HXW.out) k hk)))
              have HM6 : Hid (MapV w6 mb2 i D2 V2) := ((HX5.out.nope ((Turn.refl _ _).drew.alloc _)).wn.map.turn (S := OfRow (V2 x)) ((Turn.refl _ _).grown hgr (fun k hk => .inl hk)) (fun e => by obtain ⟨es, clock, hb⟩ := HX5.out.wn.map.blk; exact row_map (HX5.out.wn.rows x HXW.out) hb mb2 e rfl))
              obtain ⟨w7, hrun7, hown7, hg7⟩ := HM6.out.1.update law3 Try.underlying56 (by have := HI40.out; show i < maxLen; unfold maxLen; omega) hkey (val := .slice (some ⟨g1, 0, none⟩) (vA + 1) cap1) rfl
              have HO7 := Lib.hid (And.intro hown7 hg7)
              clear hown hgr hat hlt hown7 hg7
              refine hK.out _ _ ?_ (fun hHeld => ?_)
              · exact (CELL.out _ HT6.out).1
              clear hK K
              try simp only [Act.put, List.setIfInBounds_toArray, List.set_cons_zero, List.set_cons_succ]
              refine wpAnyH_ready (rs := [14]) (by kernel_rfl) (by simp) (AllReadyH.cons (by simp only [List.getElem?_toArray, List.getElem?_cons_succ, List.getElem?_cons_zero]; rfl) (fun K hK => ?_) AllReadyH.nil)
              rw [if_pos (by rfl)]
              go_simp
              refine hK.out _ _ ?_ (fun hHeld => ?_)
              · exact (CELL.out _ (HT6.out.grown HO7.out.2 (fun k hk => .inr (by injection hk with hk; rw [← hk]; exact HX5.out.wn.lo)))).1
              clear hK K
              try simp only [Act.put, List.setIfInBounds_toArray, List.set_cons_zero, List.set_cons_succ]
              refine wpAnyH_done (by kernel_rfl) ?_ _
              have HP : Hid (∃ D2' V2' K', AW w w7 a mb mb2 (i + 1) D' D2' (fun y => if y = x then v else V y) V2' (fun y => if y = x then A x ++ [sx] else A y) K') := by
                have hv := HVA.out.1
                subst hv
                exact (HX5.out.nope ((Turn.refl _ _).drew.alloc (.cells #[.string sx] 9))).put HXW.out HO6.out.1 HO6.out.2.1 (by rcases HO6.out.2.2 with h | h; exact .inl h; exact .inr (by simp; omega)) HO7.out.1 HO7.out.2
              obtain ⟨D3, V3, K3, hP⟩ := HP.out
              clear lk lk0 cx0 hkey hrun7
              have hw := HWR.out
              go_wp2_with fail
              go_roundg (40 - (i + 1))
              case measure => have := hk.out; have := HI40.out; omega
              case rel => exact ⟨i + 1, _, _, _, _, _, _, by go_num, by have := hk.out; have := HI40.out; show _ = _; omega, hP⟩
            · rw [if_pos (by rfl)]
              go_simp
              refine hK.out _ _ ?_ (fun hHeld => ?_)
              · exact (CELL.out _ (HX5.out.ag.turn.trans ((Turn.refl _ _).drew.alloc _))).1
              clear hK K
              try simp only [Act.put, List.setIfInBounds_toArray, List.set_cons_zero, List.set_cons_succ]
              refine wpAnyH_ready (rs := [10]) (by kernel_rfl) (by simp) (AllReadyH.cons (by simp only [List.getElem?_toArray, List.getElem?_cons_succ, List.getElem?_cons_zero]; rfl) (fun K hK => ?_) AllReadyH.nil)
              rw [if_pos (by rfl)]
              go_simp
              refine hK.out _ _ ?_ (fun hHeld => ?_)
              · exact (CELL.out _ (HX5.out.ag.turn.trans ((Turn.refl _ _).drew.alloc _))).1
              clear hK K
              try simp only [Act.put, List.setIfInBounds_toArray, List.set_cons_zero, List.set_cons_succ]
              refine wpAnyH_ready (rs := [13]) (by kernel_rfl) (by simp) (AllReadyH.cons (by simp only [List.getElem?_toArray, List.getElem?_cons_succ, List.getElem?_cons_zero]; rfl) (fun K hK => ?_) AllReadyH.nil)
              refine step_append_lies _ rfl (.tmp 63) (.tmp 65) 53 rfl w.heap.size 9 i9 _ 1 16 Try.underlying53 I9.out.1 I9.out.2.1 I9.out.2.2.1 I9.out.2.2.2 rfl (by omega) (V2 x) vA (strs (A x)) rfl (by rw [← HVA.out.1]; exact (HX5.out.nope ((Turn.refl _ _).drew.alloc _)).wn.rows x HXW.out) ⟨w5.heap.size, 0, none⟩ 1 1 [.string sx] rfl rfl (news_new _ _ 9) (by intro u hu; simp at hu; subst hu; rfl) (by omega) (by have := HVA.out.2; show vA + 1 ≤ 9223372036854775807; omega) (by have := HVA.out.2; omega) (by have := HX5.out.ag.turn.size; simp; omega) (w5.heap.size + 1) (by simp) ?_
              intro g1 cap1 w6 hown hgr hat hlt
              have HO6 := Lib.hid (And.intro hown (And.intro hgr hat))
              have HT6 : Hid (Turn Nope w w6) := ((HX5.out.nope ((Turn.refl _ _).drew.alloc _)).ag.turn.grown hgr (fun k hk => .inr (own_base (HX5.out.wn.rows x HXW.out) k hk)))
              have HM6 : Hid (MapV w6 mb2 i D2 V2) := ((HX5.out.nope ((Turn.refl _ _).drew.alloc _)).wn.map.turn (S := OfRow (V2 x)) ((Turn.refl _ _).grown hgr (fun k hk => .inl hk)) (fun e => by obtain ⟨es, clock, hb⟩ := HX5.out.wn.map.blk; exact row_map (HX5.out.wn.rows x HXW.out) hb mb2 e rfl))
              obtain ⟨w7, hrun7, hown7, hg7⟩ := HM6.out.1.update law3 Try.underlying56 (by have := HI40.out; show i < maxLen; unfold maxLen; omega) hkey (val := .slice (some ⟨g1, 0, none⟩) (vA + 1) cap1) rfl
              have HO7 := Lib.hid (And.intro hown7 hg7)
              clear hown hgr hat hlt hown7 hg7
              refine hK.out _ _ ?_ (fun hHeld => ?_)
              · exact (CELL.out _ HT6.out).1
              clear hK K
              try simp only [Act.put, List.setIfInBounds_toArray, List.set_cons_zero, List.set_cons_succ]
              refine wpAnyH_ready (rs := [14]) (by kernel_rfl) (by simp) (AllReadyH.cons (by simp only [List.getElem?_toArray, List.getElem?_cons_succ, List.getElem?_cons_zero]; rfl) (fun K hK => ?_) AllReadyH.nil)
              rw [if_pos (by rfl)]
              go_simp
              refine hK.out _ _ ?_ (fun hHeld => ?_)
              · exact (CELL.out _ (HT6.out.grown HO7.out.2 (fun k hk => .inr (by injection hk with hk; rw [← hk]; exact HX5.out.wn.lo)))).1
              clear hK K
              try simp only [Act.put, List.setIfInBounds_toArray, List.set_cons_zero, List.set_cons_succ]
              refine wpAnyH_done (by kernel_rfl) ?_ _
              have HP : Hid (∃ D2' V2' K', AW w w7 a mb mb2 (i + 1) D' D2' (fun y => if y = x then v else V y) V2' (fun y => if y = x then A x ++ [sx] else A y) K') := by
                have hv := HVA.out.1
                subst hv
                exact (HX5.out.nope ((Turn.refl _ _).drew.alloc (.cells #[.string sx] 9))).put HXW.out HO6.out.1 HO6.out.2.1 (by rcases HO6.out.2.2 with h | h; exact .inl h; exact .inr (by simp; omega)) HO7.out.1 HO7.out.2
              obtain ⟨D3, V3, K3, hP⟩ := HP.out
              clear lk lk0 cx0 hkey hrun7
              have hw := HWR.out
              go_wp2_with fail
              go_roundg (40 - (i + 1))
              case measure => have := hk.out; have := HI40.out; omega
              case rel => exact ⟨i + 1, _, _, _, _, _, _, by go_num, by have := hk.out; have := HI40.out; show _ = _; omega, hP⟩
          · have b3 : decide ((i : Int) < 40) = false := by simp; omega
            have b3n : decide (i < 40) = false := by simp; omega
            have hi : i ≤ 40 := by have := hk.out; omega
            clear h1 h2 h3
            go_wp2_with fail
            go_meet
            exact ⟨i, D, D2, V, V2, A, K, hi, hW.out⟩
        · have b2 : decide ((i : Int) < (lenb : Int)) = false := by simp; omega
          have b2n : decide (i < lenb) = false := by simp; omega
          have hi : i ≤ 40 := by have := hk.out; omega
          clear h1 h2
          go_wp2_with fail
          go_meet
          exact ⟨i, D, D2, V, V2, A, K, hi, hW.out⟩
      · have b1 : decide ((i : Int) < (len : Int)) = false := by simp; omega
        have b1n : decide (i < len) = false := by simp; omega
        have hi : i ≤ 40 := by have := hk.out; omega
        clear h1
        go_wp2_with fail
        go_meet
        exact ⟨i, D, D2, V, V2, A, K, hi, hW.out⟩
  case rest =>
    obtain ⟨n, D, D2, V, V2, A, K, hn⟩ := hcut
    clear HW0
    go_wp2_with fail
    refine (ag_who hn.out.2.ag (by have := hn.out.1; omega)).mono ?_
    rintro e w4 ⟨v, L, rfl, hrow, hsort, hmem, hll, ht⟩
    have HAg := Lib.hid (hn.out.2.ag.nope ht)
    have HWn := Lib.hid (hn.out.2.wn.nope ht)
    obtain ⟨AL, nL, rfl, _⟩ := own_slice hrow
    have HRow := Lib.hid (own_lower hrow hn.out.2.ag.turn.size)
    have HM : Hid (∀ x ∈ L, (Lit.int .i64 x).wf = true ∧ A x ≠ []) := fun x hx => (hmem x).1 hx
    have HM2 : Hid (∀ x, (Lit.int .i64 x).wf = true → A x ≠ [] → x ∈ L) := fun x h1 h2 => (hmem x).2 ⟨h1, h2⟩
    have HS := Lib.hid hsort
    have HNE := Lib.hid hn.out.2.ne
    have HLK : Hid (L.length = K.length) := same_length (lt_nodup hsort) HWn.out.nd fun x => by rw [hmem, HWn.out.mem]
    have HN : Hid (n ≤ 40 ∧ L.length ≤ 40 ∧ ∀ x, (A x).length ≤ 40) := ⟨hn.out.1, by have := hn.out.1; omega, fun x => Nat.le_trans (hn.out.2.cnt x) hn.out.1⟩
    clear hrow hsort hmem hll ht hn
    have hlm := HWn.out.map.1.len Try.underlying56 3
    rw [HWn.out.len, ← HLK.out] at hlm
    have e1 : ((L.length : Int) != (L.length : Int)) = false := by simp
    go_wp2_with fail
    clear hlm e1
    go_loopg [76] L.length (fun k v76 wr => ∃ (i : Nat), v76 = .int .i64 (i : Int) ∧ Hid (k + i = L.length) ∧ Hid (Turn Nope w4 wr))
    case atStart => exact ⟨0, rfl, rfl, Turn.refl _ _⟩
    case round =>
      obtain ⟨i, rfl, hk, hT⟩ := hrel
      by_cases hlt : i < L.length
      · have b1 : decide ((i : Int) < (L.length : Int)) = true := by simp; omega
        have b1n : decide (i < L.length) = true := by simp; omega
        have i0 : (0 : Int) ≤ (i : Int) := by omega
        have i1 : (i : Int) < (L.length : Int) := by omega
        have hw : wrap64 ((i : Int) + 1) = (i : Int) + 1 := IntWalk.wrap64_in _ ⟨by omega, by have := HN.out.2.1; omega⟩
        have HWR := Lib.hid hw
        clear hw
        obtain ⟨x, hx⟩ : ∃ x, L[i]? = some x := ⟨_, List.getElem?_eq_getElem hlt⟩
        have HX := Lib.hid (HM.out x (List.mem_of_getElem? hx))
        obtain ⟨gL, cL, eL, c0⟩ := num_at (own_nope HRow.out hT.out) hx
        injection eL with eL1 eL2 eL3
        subst eL1
        clear eL2 eL3
        obtain ⟨Ax, cx, hvx, -⟩ := own_slice (HWn.out.rows x HX.out.1)
        have FLK : Hid (∀ W, Turn Nope w4 W → (Instr.lookup 56 (.map (some mb2)) (.int .i64 x) false).run Try.prog W = .ok (.slice Ax (A x).length cx) W) := fun W h => by rw [← hvx]; exact (HWn.out.nope h).map.look HX.out.1
        clear hvx
        have hpos : 0 < (A x).length := List.length_pos_iff.2 HX.out.2
        have z0 : (((A x).length : Int) == 0) = false := by simp; exact HX.out.2
        have z0n : ((A x).length == 0) = false := by simp; exact HX.out.2
        have z3 : (((A x).length : Int) != ((A x).length : Int)) = false := by simp
        clear hpos
        rcases i with _ | j
        · have z1 : decide ((0 : Int) < ((0 : Nat) : Int)) = false := by simp
          clear hlt hx
          go_upto_region 17 with fail
          refine wp_region_held_drew (S := fun W => Turn Nope w4 W ∧ (Instr.lookup 56 (.map (some mb2)) (.int .i64 x) false).run Try.prog W = .ok (.slice Ax (A x).length cx) W) (by kernel_rfl) ⟨hT.out.trans (Turn.refl _ _).drew, FLK.out _ (hT.out.trans (Turn.refl _ _).drew)⟩ (fun hHeld => ?_)
          refine' wpAnyH_take (i := 0) (v := _) (by simp only [List.getElem?_toArray, List.getElem?_cons_succ, List.getElem?_cons_zero]; rfl) (by kernel_rfl) (by kernel_rfl) (by kernel_rfl) (by intro _ _ _ h; exact h) (Or.inl ⟨by rfl, ?hyq10⟩) hHeld ?restq10
          case hyq10 => (intro w hSw; (try dsimp only at hSw); go_simp; try (with_reducible rfl))
          simp only [Act.put, List.setIfInBounds_toArray, List.set_cons_zero, List.set_cons_succ]
          refine' wpAnyH_take (i := 1) (v := _) (by simp only [List.getElem?_toArray, List.getElem?_cons_succ, List.getElem?_cons_zero]; rfl) (by kernel_rfl) (by kernel_rfl) (by kernel_rfl) (by intro _ _ _ h; exact h) (Or.inl ⟨by rfl, ?hyq11⟩) hHeld ?restq11
          case hyq11 => (intro w hSw; (try dsimp only at hSw); go_simp; try (with_reducible rfl))
          simp only [Act.put, List.setIfInBounds_toArray, List.set_cons_zero, List.set_cons_succ]
          refine' wpAnyH_take (i := 2) (v := _) (by simp only [List.getElem?_toArray, List.getElem?_cons_succ, List.getElem?_cons_zero]; rfl) (by kernel_rfl) (by kernel_rfl) (by kernel_rfl) (by intro _ _ _ h; exact h) (Or.inl ⟨by rfl, ?hyq12⟩) hHeld ?restq12
          case hyq12 => (intro w hSw; (try dsimp only at hSw); go_simp; try (with_reducible rfl))
          simp only [Act.put, List.setIfInBounds_toArray, List.set_cons_zero, List.set_cons_succ]
          refine' wpAnyH_take (i := 3) (v := _) (by simp only [List.getElem?_toArray, List.getElem?_cons_succ, List.getElem?_cons_zero]; rfl) (by kernel_rfl) (by kernel_rfl) (by kernel_rfl) (by intro _ _ _ h; exact h) (Or.inl ⟨by rfl, ?hyq13⟩) hHeld ?restq13
          case hyq13 => (intro w hSw; (try dsimp only at hSw); go_simp; try (with_reducible rfl))
          simp only [Act.put, List.setIfInBounds_toArray, List.set_cons_zero, List.set_cons_succ]
          refine' wpAnyH_take (i := 4) (v := _) (by simp only [List.getElem?_toArray, List.getElem?_cons_succ, List.getElem?_cons_zero]; rfl) (by kernel_rfl) (by kernel_rfl) (by kernel_rfl) (by intro _ _ _ h; exact h) (Or.inl ⟨by rfl, ?hyq14⟩) hHeld ?restq14
          case hyq14 => (intro w hSw; (try dsimp only at hSw); go_simp; try (with_reducible rfl))
          simp only [Act.put, List.setIfInBounds_toArray, List.set_cons_zero, List.set_cons_succ]
          refine' wpAnyH_take (i := 5) (v := _) (by simp only [List.getElem?_toArray, List.getElem?_cons_succ, List.getElem?_cons_zero]; rfl) (by kernel_rfl) (by kernel_rfl) (by kernel_rfl) (by intro _ _ _ h; exact h) (Or.inl ⟨by rfl, ?hyq15⟩) hHeld ?restq15
          case hyq15 => (intro w hSw; (try dsimp only at hSw); go_simp; try (with_reducible rfl))
          simp only [Act.put, List.setIfInBounds_toArray, List.set_cons_zero, List.set_cons_succ]
          refine' wpAnyH_take (i := 6) (v := _) (by simp only [List.getElem?_toArray, List.getElem?_cons_succ, List.getElem?_cons_zero]; rfl) (by kernel_rfl) (by kernel_rfl) (by kernel_rfl) (by intro _ _ _ h; exact h) (Or.inl ⟨by rfl, ?hyq16⟩) hHeld ?restq16
          case hyq16 => (intro w hSw; (try dsimp only at hSw); go_simp; try (with_reducible rfl))
          simp only [Act.put, List.setIfInBounds_toArray, List.set_cons_zero, List.set_cons_succ]
          refine' wpAnyH_take (i := 7) (v := _) (by simp only [List.getElem?_toArray, List.getElem?_cons_succ, List.getElem?_cons_zero]; rfl) (by kernel_rfl) (by kernel_rfl) (by kernel_rfl) (by intro _ _ _ h; exact h) (Or.inl ⟨by rfl, ?hyq17⟩) hHeld ?restq17
          case hyq17 => (intro w hSw; (try dsimp only at hSw); go_simp; try (with_reducible rfl))
          simp only [Act.put, List.setIfInBounds_toArray, List.set_cons_zero, List.set_cons_succ]
          refine' wpAnyH_take (i := 8) (v := _) (by simp only [List.getElem?_toArray, List.getElem?_cons_succ, List.getElem?_cons_zero]; rfl) (by kernel_rfl) (by kernel_rfl) (by kernel_rfl) (by intro _ _ _ h; exact h) (Or.inl ⟨by rfl, ?hyq18⟩) hHeld ?restq18
          case hyq18 => (intro w hSw; (try dsimp only at hSw); go_simp; try (with_reducible rfl))
          simp only [Act.put, List.setIfInBounds_toArray, List.set_cons_zero, List.set_cons_succ]
          refine wpAnyH_take (i := 9) (v := undef) (by simp only [List.getElem?_toArray, List.getElem?_cons_succ, List.getElem?_cons_zero]; rfl) (by kernel_rfl) (by kernel_rfl) (by kernel_rfl) (by intro _ _ _ h; exact h) (Or.inr ⟨by rfl, rfl⟩) hHeld ?_
          simp only [Act.put, List.setIfInBounds_toArray, List.set_cons_zero, List.set_cons_succ]
          refine wpAnyH_take (i := 10) (v := undef) (by simp only [List.getElem?_toArray, List.getElem?_cons_succ, List.getElem?_cons_zero]; rfl) (by kernel_rfl) (by kernel_rfl) (by kernel_rfl) (by intro _ _ _ h; exact h) (Or.inr ⟨by rfl, rfl⟩) hHeld ?_
          simp only [Act.put, List.setIfInBounds_toArray, List.set_cons_zero, List.set_cons_succ]
          refine wpAnyH_take (i := 11) (v := undef) (by simp only [List.getElem?_toArray, List.getElem?_cons_succ, List.getElem?_cons_zero]; rfl) (by kernel_rfl) (by kernel_rfl) (by kernel_rfl) (by intro _ _ _ h; exact h) (Or.inr ⟨by rfl, rfl⟩) hHeld ?_
          simp only [Act.put, List.setIfInBounds_toArray, List.set_cons_zero, List.set_cons_succ]
          refine wpAnyH_take (i := 12) (v := undef) (by simp only [List.getElem?_toArray, List.getElem?_cons_succ, List.getElem?_cons_zero]; rfl) (by kernel_rfl) (by kernel_rfl) (by kernel_rfl) (by intro _ _ _ h; exact h) (Or.inr ⟨by rfl, rfl⟩) hHeld ?_
          simp only [Act.put, List.setIfInBounds_toArray, List.set_cons_zero, List.set_cons_succ]
          refine wpAnyH_take (i := 13) (v := undef) (by simp only [List.getElem?_toArray, List.getElem?_cons_succ, List.getElem?_cons_zero]; rfl) (by kernel_rfl) (by kernel_rfl) (by kernel_rfl) (by intro _ _ _ h; exact h) (Or.inr ⟨by rfl, rfl⟩) hHeld ?_
          simp only [Act.put, List.setIfInBounds_toArray, List.set_cons_zero, List.set_cons_succ]
          refine wpAnyH_take (i := 14) (v := undef) (by simp only [List.getElem?_toArray, List.getElem?_cons_succ, List.getElem?_cons_zero]; rfl) (by kernel_rfl) (by kernel_rfl) (by kernel_rfl) (by intro _ _ _ h; exact h) (Or.inr ⟨by rfl, rfl⟩) hHeld ?_
          simp only [Act.put, List.setIfInBounds_toArray, List.set_cons_zero, List.set_cons_succ]
          refine wpAnyH_take (i := 15) (v := undef) (by simp only [List.getElem?_toArray, List.getElem?_cons_succ, List.getElem?_cons_zero]; rfl) (by kernel_rfl) (by kernel_rfl) (by kernel_rfl) (by intro _ _ _ h; exact h) (Or.inr ⟨by rfl, rfl⟩) hHeld ?_
          simp only [Act.put, List.setIfInBounds_toArray, List.set_cons_zero, List.set_cons_succ]
          refine' wpAnyH_take (i := 16) (v := _) (by simp only [List.getElem?_toArray, List.getElem?_cons_succ, List.getElem?_cons_zero]; rfl) (by kernel_rfl) (by kernel_rfl) (by kernel_rfl) (by intro _ _ _ h; exact h) (Or.inl ⟨by rfl, ?hyq116⟩) hHeld ?restq116
          case hyq116 => (intro w hSw; (try dsimp only at hSw); go_simp; try (with_reducible rfl))
          simp only [Act.put, List.setIfInBounds_toArray, List.set_cons_zero, List.set_cons_succ]
          refine' wpAnyH_take (i := 17) (v := _) (by simp only [List.getElem?_toArray, List.getElem?_cons_succ, List.getElem?_cons_zero]; rfl) (by kernel_rfl) (by kernel_rfl) (by kernel_rfl) (by intro _ _ _ h; exact h) (Or.inl ⟨by rfl, ?hyq117⟩) hHeld ?restq117
          case hyq117 => (intro w hSw; (try dsimp only at hSw); go_simp; try (with_reducible rfl))
          simp only [Act.put, List.setIfInBounds_toArray, List.set_cons_zero, List.set_cons_succ]
          refine' wpAnyH_take (i := 18) (v := _) (by simp only [List.getElem?_toArray, List.getElem?_cons_succ, List.getElem?_cons_zero]; rfl) (by kernel_rfl) (by kernel_rfl) (by kernel_rfl) (by intro _ _ _ h; exact h) (Or.inl ⟨by rfl, ?hyq118⟩) hHeld ?restq118
          case hyq118 => (intro w hSw; (try dsimp only at hSw); go_simp; try (with_reducible rfl))
          simp only [Act.put, List.setIfInBounds_toArray, List.set_cons_zero, List.set_cons_succ]
          refine' wpAnyH_take (i := 19) (v := _) (by simp only [List.getElem?_toArray, List.getElem?_cons_succ, List.getElem?_cons_zero]; rfl) (by kernel_rfl) (by kernel_rfl) (by kernel_rfl) (by intro _ _ _ h; exact h) (Or.inl ⟨by rfl, ?hyq119⟩) hHeld ?restq119
          case hyq119 => (intro w hSw; (try dsimp only at hSw); go_simp; try (with_reducible rfl))
          simp only [Act.put, List.setIfInBounds_toArray, List.set_cons_zero, List.set_cons_succ]
          refine' wpAnyH_take (i := 20) (v := _) (by simp only [List.getElem?_toArray, List.getElem?_cons_succ, List.getElem?_cons_zero]; rfl) (by kernel_rfl) (by kernel_rfl) (by kernel_rfl) (by intro _ _ _ h; exact h) (Or.inl ⟨by rfl, ?hyq120⟩) hHeld ?restq120
          case hyq120 => (intro w hSw; (try dsimp only at hSw); go_simp; try (with_reducible rfl))
          simp only [Act.put, List.setIfInBounds_toArray, List.set_cons_zero, List.set_cons_succ]
          refine' wpAnyH_take (i := 22) (v := _) (by simp only [List.getElem?_toArray, List.getElem?_cons_succ, List.getElem?_cons_zero]; rfl) (by kernel_rfl) (by kernel_rfl) (by kernel_rfl) (by intro _ _ _ h; exact h) (Or.inl ⟨by rfl, ?hyq122⟩) hHeld ?restq122
          case hyq122 => (intro w hSw; (try dsimp only at hSw); go_simp; try (with_reducible rfl))
          simp only [Act.put, List.setIfInBounds_toArray, List.set_cons_zero, List.set_cons_succ]
          refine' wpAnyH_take (i := 23) (v := _) (by simp only [List.getElem?_toArray, List.getElem?_cons_succ, List.getElem?_cons_zero]; rfl) (by kernel_rfl) (by kernel_rfl) (by kernel_rfl) (by intro _ _ _ h; exact h) (Or.inl ⟨by rfl, ?hyq123⟩) hHeld ?restq123
          case hyq123 => (intro w hSw; (try dsimp only at hSw); go_simp; try (with_reducible rfl))
          simp only [Act.put, List.setIfInBounds_toArray, List.set_cons_zero, List.set_cons_succ]
          refine' wpAnyH_take (i := 24) (v := _) (by simp only [List.getElem?_toArray, List.getElem?_cons_succ, List.getElem?_cons_zero]; rfl) (by kernel_rfl) (by kernel_rfl) (by kernel_rfl) (by intro _ _ _ h; exact h) (Or.inl ⟨by rfl, ?hyq124⟩) hHeld ?restq124
          case hyq124 => (intro w hSw; (try dsimp only at hSw); go_simp; try (with_reducible rfl))
          simp only [Act.put, List.setIfInBounds_toArray, List.set_cons_zero, List.set_cons_succ]
          refine' wpAnyH_take (i := 25) (v := _) (by simp only [List.getElem?_toArray, List.getElem?_cons_succ, List.getElem?_cons_zero]; rfl) (by kernel_rfl) (by kernel_rfl) (by kernel_rfl) (by intro _ _ _ h; exact h) (Or.inl ⟨by rfl, ?hyq125⟩) hHeld ?restq125
          case hyq125 => (intro w hSw; (try dsimp only at hSw); go_simp; try (with_reducible rfl))
          simp only [Act.put, List.setIfInBounds_toArray, List.set_cons_zero, List.set_cons_succ]
          refine wpAnyH_ready (rs := [21]) (by kernel_rfl) (by simp) (AllReadyH.cons (by simp only [List.getElem?_toArray, List.getElem?_cons_succ, List.getElem?_cons_zero]; rfl) (fun K hK => ?_) AllReadyH.nil)
          rw [if_pos (by rfl)]
          go_simp
          refine (ag_left (HAg.out.nope hHeld.1) HX.out.1).mono ?_
          rintro e wN ⟨rfl, rfl⟩
          try go_wp2_with fail
          refine hK.out _ _ ?_ (fun hHeld => ?_)
          · exact hHeld
          clear hK K
          try simp only [Act.put, List.setIfInBounds_toArray, List.set_cons_zero, List.set_cons_succ]
          refine' wpAnyH_take (i := 26) (v := _) (by simp only [List.getElem?_toArray, List.getElem?_cons_succ, List.getElem?_cons_zero]; rfl) (by kernel_rfl) (by kernel_rfl) (by kernel_rfl) (by intro _ _ _ h; exact h) (Or.inl ⟨by rfl, ?hyq126⟩) hHeld ?restq126
          case hyq126 => (intro w hSw; (try dsimp only at hSw); go_simp; try (with_reducible rfl))
          simp only [Act.put, List.setIfInBounds_toArray, List.set_cons_zero, List.set_cons_succ]
          refine' wpAnyH_take (i := 27) (v := _) (by simp only [List.getElem?_toArray, List.getElem?_cons_succ, List.getElem?_cons_zero]; rfl) (by kernel_rfl) (by kernel_rfl) (by kernel_rfl) (by intro _ _ _ h; exact h) (Or.inl ⟨by rfl, ?hyq127⟩) hHeld ?restq127
          case hyq127 => (intro w hSw; (try dsimp only at hSw); go_simp; try (with_reducible rfl))
          simp only [Act.put, List.setIfInBounds_toArray, List.set_cons_zero, List.set_cons_succ]
          refine wpAnyH_done (by kernel_rfl) ?_ _
          clear hHeld z0 z0n z1 z3
          have hw := HWR.out
          go_wp2_with fail
          go_roundg (L.length - (0 + 1))
          case measure => have := hk.out; omega
          case rel => exact ⟨0 + 1, by go_num, by have := hk.out; show _ = _; omega, hT.out.trans (by repeat (first | exact Turn.refl _ _ | apply Turn.drewN | apply Turn.drew))⟩
        · obtain ⟨y, hy⟩ : ∃ y, L[j]? = some y := ⟨_, List.getElem?_eq_getElem (by omega)⟩
          have hyx : y < x := lt_at HS.out hy hx (by omega)
          have z2 : decide (x ≤ y) = false := by simp; omega
          have z2' : decide (y ≥ x) = false := by simp; omega
          have z1 : decide ((0 : Int) < ((j + 1 : Nat) : Int)) = true := by rw [decide_eq_true_eq]; omega
          have hs1 : IntKind.i64.wrap (j : Int) = (j : Int) := IntWalk.i64_in _ ⟨by omega, by have := HN.out.2.1; omega⟩
          have j0 : (0 : Int) ≤ (j : Int) := by omega
          have j1 : (j : Int) < (L.length : Int) := by omega
          have FPR : Hid (∀ W, Turn Nope w4 W → W.cell? ⟨gL, j, none⟩ = some (.int .i64 y)) := fun W h => by
            obtain ⟨g2, c2, e2, h2⟩ := num_at (own_nope HRow.out h) hy
            injection e2 with e2 _ _
            injection e2 with e2
            injection e2 with e2 _
            subst e2
            exact h2
          clear hlt hx hy hyx
          have HS1 := Lib.hid hs1
          have HWR2 : Hid (wrap64 ((j : Int) + 1 + 1) = (j : Int) + 1 + 1) := IntWalk.wrap64_in _ ⟨by omega, by have := HN.out.2.1; omega⟩
          clear hs1
          go_upto_region 17 with fail
          have hs1 := HS1.out
          refine wp_region_held_drew (S := fun W => Turn Nope w4 W ∧ (Instr.lookup 56 (.map (some mb2)) (.int .i64 x) false).run Try.prog W = .ok (.slice Ax (A x).length cx) W ∧ W.cell? ⟨gL, j, none⟩ = some (.int .i64 y)) (by kernel_rfl) ⟨hT.out.trans (Turn.refl _ _).drew, FLK.out _ (hT.out.trans (Turn.refl _ _).drew), FPR.out _ (hT.out.trans (Turn.refl _ _).drew)⟩ (fun hHeld => ?_)
          refine' wpAnyH_take (i := 0) (v := _) (by simp only [List.getElem?_toArray, List.getElem?_cons_succ, List.getElem?_cons_zero]; rfl) (by kernel_rfl) (by kernel_rfl) (by kernel_rfl) (by intro _ _ _ h; exact h) (Or.inl ⟨by rfl, ?hyq20⟩) hHeld ?restq20
          case hyq20 => (intro w hSw; (try dsimp only at hSw); go_simp; try (with_reducible rfl))
          simp only [Act.put, List.setIfInBounds_toArray, List.set_cons_zero, List.set_cons_succ]
          refine' wpAnyH_take (i := 1) (v := _) (by simp only [List.getElem?_toArray, List.getElem?_cons_succ, List.getElem?_cons_zero]; rfl) (by kernel_rfl) (by kernel_rfl) (by kernel_rfl) (by intro _ _ _ h; exact h) (Or.inl ⟨by rfl, ?hyq21⟩) hHeld ?restq21
          case hyq21 => (intro w hSw; (try dsimp only at hSw); go_simp; try (with_reducible rfl))
          simp only [Act.put, List.setIfInBounds_toArray, List.set_cons_zero, List.set_cons_succ]
          refine' wpAnyH_take (i := 2) (v := _) (by simp only [List.getElem?_toArray, List.getElem?_cons_succ, List.getElem?_cons_zero]; rfl) (by kernel_rfl) (by kernel_rfl) (by kernel_rfl) (by intro _ _ _ h; exact h) (Or.inl ⟨by rfl, ?hyq22⟩) hHeld ?restq22
          case hyq22 => (intro w hSw; (try dsimp only at hSw); go_simp; try (with_reducible rfl))
          simp only [Act.put, List.setIfInBounds_toArray, List.set_cons_zero, List.set_cons_succ]
          refine' wpAnyH_take (i := 3) (v := _) (by simp only [List.getElem?_toArray, List.getElem?_cons_succ, List.getElem?_cons_zero]; rfl) (by kernel_rfl) (by kernel_rfl) (by kernel_rfl) (by intro _ _ _ h; exact h) (Or.inl ⟨by rfl, ?hyq23⟩) hHeld ?restq23
          case hyq23 => (intro w hSw; (try dsimp only at hSw); go_simp; try (with_reducible rfl))
          simp only [Act.put, List.setIfInBounds_toArray, List.set_cons_zero, List.set_cons_succ]
          refine' wpAnyH_take (i := 4) (v := _) (by simp only [List.getElem?_toArray, List.getElem?_cons_succ, List.getElem?_cons_zero]; rfl) (by kernel_rfl) (by kernel_rfl) (by kernel_rfl) (by intro _ _ _ h; exact h) (Or.inl ⟨by rfl, ?hyq24⟩) hHeld ?restq24
          case hyq24 => (intro w hSw; (try dsimp only at hSw); go_simp; try (with_reducible rfl))
          simp only [Act.put, List.setIfInBounds_toArray, List.set_cons_zero, List.set_cons_succ]
          refine' wpAnyH_take (i := 5) (v := _) (by simp only [List.getElem?_toArray, List.getElem?_cons_succ, List.getElem?_cons_zero]; rfl) (by kernel_rfl) (by kernel_rfl) (by kernel_rfl) (by intro _ _ _ h; exact h) (Or.inl ⟨by rfl, ?hyq25⟩) hHeld ?restq25
          case hyq25 => (intro w hSw; (try dsimp only at hSw); go_simp; try (with_reducible rfl))
          simp only [Act.put, List.setIfInBounds_toArray, List.set_cons_zero, List.set_cons_succ]
          refine' wpAnyH_take (i := 6) (v := _) (by simp only [List.getElem?_toArray, List.getElem?_cons_succ, List.getElem?_cons_zero]; rfl) (by kernel_rfl) (by kernel_rfl) (by kernel_rfl) (by intro _ _ _ h; exact h) (Or.inl ⟨by rfl, ?hyq26⟩) hHeld ?restq26
          case hyq26 => (intro w hSw; (try dsimp only at hSw); go_simp; try (with_reducible rfl))
          simp only [Act.put, List.setIfInBounds_toArray, List.set_cons_zero, List.set_cons_succ]
          refine' wpAnyH_take (i := 7) (v := _) (by simp only [List.getElem?_toArray, List.getElem?_cons_succ, List.getElem?_cons_zero]; rfl) (by kernel_rfl) (by kernel_rfl) (by kernel_rfl) (by intro _ _ _ h; exact h) (Or.inl ⟨by rfl, ?hyq27⟩) hHeld ?restq27
          case hyq27 => (intro w hSw; (try dsimp only at hSw); go_simp; try (with_reducible rfl))
          simp only [Act.put, List.setIfInBounds_toArray, List.set_cons_zero, List.set_cons_succ]
          refine' wpAnyH_take (i := 8) (v := _) (by simp only [List.getElem?_toArray, List.getElem?_cons_succ, List.getElem?_cons_zero]; rfl) (by kernel_rfl) (by kernel_rfl) (by kernel_rfl) (by intro _ _ _ h; exact h) (Or.inl ⟨by rfl, ?hyq28⟩) hHeld ?restq28
          case hyq28 => (intro w hSw; (try dsimp only at hSw); go_simp; try (with_reducible rfl))
          simp only [Act.put, List.setIfInBounds_toArray, List.set_cons_zero, List.set_cons_succ]
          refine' wpAnyH_take (i := 9) (v := _) (by simp only [List.getElem?_toArray, List.getElem?_cons_succ, List.getElem?_cons_zero]; rfl) (by kernel_rfl) (by kernel_rfl) (by kernel_rfl) (by intro _ _ _ h; exact h) (Or.inl ⟨by rfl, ?hyq29⟩) hHeld ?restq29
          case hyq29 => (intro w hSw; (try dsimp only at hSw); go_simp; try (with_reducible rfl))
          simp only [Act.put, List.setIfInBounds_toArray, List.set_cons_zero, List.set_cons_succ]
          refine' wpAnyH_take (i := 10) (v := _) (by simp only [List.getElem?_toArray, List.getElem?_cons_succ, List.getElem?_cons_zero]; rfl) (by kernel_rfl) (by kernel_rfl) (by kernel_rfl) (by intro _ _ _ h; exact h) (Or.inl ⟨by rfl, ?hyq210⟩) hHeld ?restq210
          case hyq210 => (intro w hSw; (try dsimp only at hSw); go_simp; try (with_reducible rfl))
          simp only [Act.put, List.setIfInBounds_toArray, List.set_cons_zero, List.set_cons_succ]
          refine' wpAnyH_take (i := 11) (v := _) (by simp only [List.getElem?_toArray, List.getElem?_cons_succ, List.getElem?_cons_zero]; rfl) (by kernel_rfl) (by kernel_rfl) (by kernel_rfl) (by intro _ _ _ h; exact h) (Or.inl ⟨by rfl, ?hyq211⟩) hHeld ?restq211
          case hyq211 => (intro w hSw; (try dsimp only at hSw); go_simp; try (with_reducible rfl))
          simp only [Act.put, List.setIfInBounds_toArray, List.set_cons_zero, List.set_cons_succ]
          refine' wpAnyH_take (i := 12) (v := _) (by simp only [List.getElem?_toArray, List.getElem?_cons_succ, List.getElem?_cons_zero]; rfl) (by kernel_rfl) (by kernel_rfl) (by kernel_rfl) (by intro _ _ _ h; exact h) (Or.inl ⟨by rfl, ?hyq212⟩) hHeld ?restq212
          case hyq212 => (intro w hSw; (try dsimp only at hSw); go_simp; try (with_reducible rfl))
          simp only [Act.put, List.setIfInBounds_toArray, List.set_cons_zero, List.set_cons_succ]
          refine' wpAnyH_take (i := 13) (v := _) (by simp only [List.getElem?_toArray, List.getElem?_cons_succ, List.getElem?_cons_zero]; rfl) (by kernel_rfl) (by kernel_rfl) (by kernel_rfl) (by intro _ _ _ h; exact h) (Or.inl ⟨by rfl, ?hyq213⟩) hHeld ?restq213
          case hyq213 => (intro w hSw; (try dsimp only at hSw); go_simp; try (with_reducible rfl))
          simp only [Act.put, List.setIfInBounds_toArray, List.set_cons_zero, List.set_cons_succ]
          refine' wpAnyH_take (i := 14) (v := _) (by simp only [List.getElem?_toArray, List.getElem?_cons_succ, List.getElem?_cons_zero]; rfl) (by kernel_rfl) (by kernel_rfl) (by kernel_rfl) (by intro _ _ _ h; exact h) (Or.inl ⟨by rfl, ?hyq214⟩) hHeld ?restq214
          case hyq214 => (intro w hSw; (try dsimp only at hSw); go_simp; try (with_reducible rfl))
          simp only [Act.put, List.setIfInBounds_toArray, List.set_cons_zero, List.set_cons_succ]
          refine' wpAnyH_take (i := 15) (v := _) (by simp only [List.getElem?_toArray, List.getElem?_cons_succ, List.getElem?_cons_zero]; rfl) (by kernel_rfl) (by kernel_rfl) (by kernel_rfl) (by intro _ _ _ h; exact h) (Or.inl ⟨by rfl, ?hyq215⟩) hHeld ?restq215
          case hyq215 => (intro w hSw; (try dsimp only at hSw); go_simp; try (with_reducible rfl))
          simp only [Act.put, List.setIfInBounds_toArray, List.set_cons_zero, List.set_cons_succ]
          refine' wpAnyH_take (i := 16) (v := _) (by simp only [List.getElem?_toArray, List.getElem?_cons_succ, List.getElem?_cons_zero]; rfl) (by kernel_rfl) (by kernel_rfl) (by kernel_rfl) (by intro _ _ _ h; exact h) (Or.inl ⟨by rfl, ?hyq216⟩) hHeld ?restq216
          case hyq216 => (intro w hSw; (try dsimp only at hSw); go_simp; try (with_reducible rfl))
          simp only [Act.put, List.setIfInBounds_toArray, List.set_cons_zero, List.set_cons_succ]
          refine' wpAnyH_take (i := 17) (v := _) (by simp only [List.getElem?_toArray, List.getElem?_cons_succ, List.getElem?_cons_zero]; rfl) (by kernel_rfl) (by kernel_rfl) (by kernel_rfl) (by intro _ _ _ h; exact h) (Or.inl ⟨by rfl, ?hyq217⟩) hHeld ?restq217
          case hyq217 => (intro w hSw; (try dsimp only at hSw); go_simp; try (with_reducible rfl))
          simp only [Act.put, List.setIfInBounds_toArray, List.set_cons_zero, List.set_cons_succ]
          refine' wpAnyH_take (i := 18) (v := _) (by simp only [List.getElem?_toArray, List.getElem?_cons_succ, List.getElem?_cons_zero]; rfl) (by kernel_rfl) (by kernel_rfl) (by kernel_rfl) (by intro _ _ _ h; exact h) (Or.inl ⟨by rfl, ?hyq218⟩) hHeld ?restq218
          case hyq218 => (intro w hSw; (try dsimp only at hSw); go_simp; try (with_reducible rfl))
          simp only [Act.put, List.setIfInBounds_toArray, List.set_cons_zero, List.set_cons_succ]
          refine' wpAnyH_take (i := 19) (v := _) (by simp only [List.getElem?_toArray, List.getElem?_cons_succ, List.getElem?_cons_zero]; rfl) (by kernel_rfl) (by kernel_rfl) (by kernel_rfl) (by intro _ _ _ h; exact h) (Or.inl ⟨by rfl, ?hyq219⟩) hHeld ?restq219
          case hyq219 => (intro w hSw; (try dsimp only at hSw); go_simp; try (with_reducible rfl))
          simp only [Act.put, List.setIfInBounds_toArray, List.set_cons_zero, List.set_cons_succ]
          refine' wpAnyH_take (i := 20) (v := _) (by simp only [List.getElem?_toArray, List.getElem?_cons_succ, List.getElem?_cons_zero]; rfl) (by kernel_rfl) (by kernel_rfl) (by kernel_rfl) (by intro _ _ _ h; exact h) (Or.inl ⟨by rfl, ?hyq220⟩) hHeld ?restq220
          case hyq220 => (intro w hSw; (try dsimp only at hSw); go_simp; try (with_reducible rfl))
          simp only [Act.put, List.setIfInBounds_toArray, List.set_cons_zero, List.set_cons_succ]
          refine' wpAnyH_take (i := 22) (v := _) (by simp only [List.getElem?_toArray, List.getElem?_cons_succ, List.getElem?_cons_zero]; rfl) (by kernel_rfl) (by kernel_rfl) (by kernel_rfl) (by intro _ _ _ h; exact h) (Or.inl ⟨by rfl, ?hyq222⟩) hHeld ?restq222
          case hyq222 => (intro w hSw; (try dsimp only at hSw); go_simp; try (with_reducible rfl))
          simp only [Act.put, List.setIfInBounds_toArray, List.set_cons_zero, List.set_cons_succ]
          refine' wpAnyH_take (i := 23) (v := _) (by simp only [List.getElem?_toArray, List.getElem?_cons_succ, List.getElem?_cons_zero]; rfl) (by kernel_rfl) (by kernel_rfl) (by kernel_rfl) (by intro _ _ _ h; exact h) (Or.inl ⟨by rfl, ?hyq223⟩) hHeld ?restq223
          case hyq223 => (intro w hSw; (try dsimp only at hSw); go_simp; try (with_reducible rfl))
          simp only [Act.put, List.setIfInBounds_toArray, List.set_cons_zero, List.set_cons_succ]
          refine' wpAnyH_take (i := 24) (v := _) (by simp only [List.getElem?_toArray, List.getElem?_cons_succ, List.getElem?_cons_zero]; rfl) (by kernel_rfl) (by kernel_rfl) (by kernel_rfl) (by intro _ _ _ h; exact h) (Or.inl ⟨by rfl, ?hyq224⟩) hHeld ?restq224
          case hyq224 => (intro w hSw; (try dsimp only at hSw); go_simp; try (with_reducible rfl))
          simp only [Act.put, List.setIfInBounds_toArray, List.set_cons_zero, List.set_cons_succ]
          refine' wpAnyH_take (i := 25) (v := _) (by simp only [List.getElem?_toArray, List.getElem?_cons_succ, List.getElem?_cons_zero]; rfl) (by kernel_rfl) (by kernel_rfl) (by kernel_rfl) (by intro _ _ _ h; exact h) (Or.inl ⟨by rfl, ?hyq225⟩) hHeld ?restq225
          case hyq225 => (intro w hSw; (try dsimp only at hSw); go_simp; try (with_reducible rfl))
          simp only [Act.put, List.setIfInBounds_toArray, List.set_cons_zero, List.set_cons_succ]
          refine wpAnyH_ready (rs := [21]) (by kernel_rfl) (by simp) (AllReadyH.cons (by simp only [List.getElem?_toArray, List.getElem?_cons_succ, List.getElem?_cons_zero]; rfl) (fun K hK => ?_) AllReadyH.nil)
          rw [if_pos (by rfl)]
          go_simp
          refine (ag_left (HAg.out.nope hHeld.1) HX.out.1).mono ?_
          rintro e wN ⟨rfl, rfl⟩
          try go_wp2_with fail
          refine hK.out _ _ ?_ (fun hHeld => ?_)
          · exact hHeld
          clear hK K
          try simp only [Act.put, List.setIfInBounds_toArray, List.set_cons_zero, List.set_cons_succ]
          refine' wpAnyH_take (i := 26) (v := _) (by simp only [List.getElem?_toArray, List.getElem?_cons_succ, List.getElem?_cons_zero]; rfl) (by kernel_rfl) (by kernel_rfl) (by kernel_rfl) (by intro _ _ _ h; exact h) (Or.inl ⟨by rfl, ?hyq226⟩) hHeld ?restq226
          case hyq226 => (intro w hSw; (try dsimp only at hSw); go_simp; try (with_reducible rfl))
          simp only [Act.put, List.setIfInBounds_toArray, List.set_cons_zero, List.set_cons_succ]
          refine' wpAnyH_take (i := 27) (v := _) (by simp only [List.getElem?_toArray, List.getElem?_cons_succ, List.getElem?_cons_zero]; rfl) (by kernel_rfl) (by kernel_rfl) (by kernel_rfl) (by intro _ _ _ h; exact h) (Or.inl ⟨by rfl, ?hyq227⟩) hHeld ?restq227
          case hyq227 => (intro w hSw; (try dsimp only at hSw); go_simp; try (with_reducible rfl))
          simp only [Act.put, List.setIfInBounds_toArray, List.set_cons_zero, List.set_cons_succ]
          refine wpAnyH_done (by kernel_rfl) ?_ _
          clear hHeld z0 z0n z1 z2 z2' z3 hs1 j0 j1
          have hw := HWR2.out
          go_wp2_with fail
          go_roundg (L.length - (j + 1 + 1))
          case measure => have := hk.out; omega
          case rel => exact ⟨j + 1 + 1, by go_num, by have := hk.out; show _ = _; omega, hT.out.trans (by repeat (first | exact Turn.refl _ _ | apply Turn.drewN | apply Turn.drew))⟩
      · have b1 : decide ((i : Int) < (L.length : Int)) = false := by simp; omega
        have b1n : decide (i < L.length) = false := by simp; omega
        have HAg := Lib.hid (HAg.out.nope hT.out)
        have HWn := Lib.hid (HWn.out.nope hT.out)
        have HRow := Lib.hid (own_nope HRow.out hT.out)
        clear hlt hT hk
        go_wp2_with fail
        go_loopg [112] L.length (fun k v112 wr => ∃ (i m : Nat) (D' : DataW Value) (V' : Int → Value), v112 = .int .i64 (i : Int) ∧ Hid (k + i = L.length ∧ m ≤ 40 + 41 * i) ∧ Hid (TakeW w wr a mb mb2 m n (.slice AL L.length nL) L D' D2 V' V2 (fun y => if y ∈ L.take i then [] else A y) A K))
        case atStart => exact ⟨0, n, _, _, rfl, ⟨rfl, by have := HN.out.1; omega⟩, ⟨by simpa using HAg.out, HWn.out, HRow.out, HN.out.2.2, HNE.out⟩⟩
        case round =>
          obtain ⟨i, m, D', V', rfl, hk, hT⟩ := hrel
          clear HAg HWn HRow
          by_cases hlt : i < L.length
          · have b1 : decide ((i : Int) < (L.length : Int)) = true := by simp; omega
            have b1n : decide (i < L.length) = true := by simp; omega
            have i0 : (0 : Int) ≤ (i : Int) := by omega
            have i1 : (i : Int) < (L.length : Int) := by omega
            have hw : wrap64 ((i : Int) + 1) = (i : Int) + 1 := IntWalk.wrap64_in _ ⟨by omega, by have := HN.out.2.1; omega⟩
            have HWR := Lib.hid hw
            clear hw
            obtain ⟨x, hx⟩ : ∃ x, L[i]? = some x := ⟨_, List.getElem?_eq_getElem hlt⟩
            have HX := Lib.hid (HM.out x (List.mem_of_getElem? hx))
            have HNX : Hid (x ∉ L.take i) := not_took HS.out hx
            have HTK := Lib.hid (took_next hx)
            obtain ⟨gL, cL, eL, c0⟩ := num_at hT.out.row hx
            injection eL with eL1 eL2 eL3
            subst eL1
            clear eL2 eL3
            have hrx := hT.out.wn.rows x HX.out.1
            obtain ⟨Ax, cx, hvx, -⟩ := own_slice hrx
            have lk := hT.out.wn.map.look HX.out.1
            rw [hvx] at lk hrx
            have HRX := Lib.hid hrx
            have HVX := Lib.hid hvx
            have hlt' := hlt
            have HLT := Lib.hid hlt'
            clear hvx hlt hx hrx hlt'
            go_wp2_with fail
            clear lk c0 i0 i1 b1 b1n
            go_loopg [120] (A x).length (fun k v120 wr => ∃ (j m2 : Nat) (D3 : DataW Value) (V3 : Int → Value), v120 = .int .i64 (j : Int) ∧ Hid (k + j = (A x).length ∧ m2 ≤ m + j) ∧ Hid (TakeW w wr a mb mb2 m2 n (.slice (some ⟨gL, 0, none⟩) L.length nL) L D3 D2 V3 V2 (fun y => if y = x then (A x).drop j else if y ∈ L.take i then [] else A y) A K))
            case atStart =>
              refine ⟨0, m, D', V', rfl, ⟨rfl, Nat.le_refl _⟩, ?_⟩
              have e : (fun y => if y = x then (A x).drop 0 else if y ∈ L.take i then [] else A y) = (fun y => if y ∈ L.take i then [] else A y) := by
                funext y
                by_cases hyx : y = x
                · subst hyx
                  rw [if_pos rfl, if_neg HNX.out]; rfl
                · rw [if_neg hyx]
              rw [e]
              exact hT.out
            case round =>
              obtain ⟨j, m2, D3, V3, rfl, hj, hT2⟩ := hrel
              have HI : Hid (i < L.length) := HLT.out
              clear hT
              by_cases hlt : j < (A x).length
              · have b1 : decide ((j : Int) < ((A x).length : Int)) = true := by simp; omega
                have b1n : decide (j < (A x).length) = true := by simp; omega
                have i0 : (0 : Int) ≤ (j : Int) := by omega
                have i1 : (j : Int) < ((A x).length : Int) := by omega
                have hw : wrap64 ((j : Int) + 1) = (j : Int) + 1 := IntWalk.wrap64_in _ ⟨by omega, by have := HN.out.2.2 x; omega⟩
                have HWJ := Lib.hid hw
                clear hw
                obtain ⟨sx, hsx⟩ : ∃ sx, (A x)[j]? = some sx := ⟨_, List.getElem?_eq_getElem hlt⟩
                have hrx := hT2.out.wn.rows x HX.out.1
                rw [HVX.out] at hrx
                obtain ⟨gx, cgx, ex, -⟩ := World.ownsRow.form hrx (by omega)
                injection ex with ex1 ex2 ex3
                subst ex1
                clear ex2 ex3
                have c0 := own_elem hrx j (u := .string sx) (by simp [strs, hsx])
                have HD : Hid ((A x).drop j = sx :: (A x).drop (j + 1)) := drop_cons hsx
                have HLJ := Lib.hid hlt
                clear hrx hsx hlt
                go_wp2_with fail
                refine (ag_take_some hT2.out.ag (by have := hj.out.2; have := HLJ.out; have := hk.out.2; have := HN.out.2.1; have := HN.out.2.2 x; have := HI.out; omega) HX.out.1 (s := sx) (l := (A x).drop (j + 1)) (by rw [if_pos rfl]; exact HD.out) (by rw [List.length_drop]; have := HN.out.2.2 x; omega)).mono ?_
                rintro e w8 ⟨rfl, ⟨D5, V5, hag⟩, ht⟩
                have e : (fun y => if y = x then (A x).drop (j + 1) else (fun y => if y = x then (A x).drop j else if y ∈ L.take i then [] else A y) y) = (fun y => if y = x then (A x).drop (j + 1) else if y ∈ L.take i then [] else A y) := by
                  funext y
                  by_cases hyx : y = x
                  · rw [if_pos hyx, if_pos hyx]
                  · rw [if_neg hyx, if_neg hyx]; show (if y = x then _ else _) = _; rw [if_neg hyx]
                rw [e] at hag
                have HT3 := Lib.hid (hT2.out.took hag ht)
                clear hag ht e c0
                have s1 : (sx.toList != sx.toList) = false := by simp
                go_wp2_with fail
                have hw := HWJ.out
                go_wp2_with fail
                go_roundg ((A x).length - (j + 1))
                case measure => have := hj.out.1; have := HLJ.out; omega
                case rel => exact ⟨j + 1, m2 + 1, D5, V5, by go_num, ⟨by have := hj.out.1; have := HLJ.out; show _ = _; omega, by have := hj.out.2; omega⟩, HT3.out⟩
              · have b1 : decide ((j : Int) < ((A x).length : Int)) = false := by simp; omega
                have b1n : decide (j < (A x).length) = false := by simp; omega
                have hje : (A x).length ≤ j := by omega
                have HD : Hid ((A x).drop j = []) := List.drop_eq_nil_of_le hje
                have HJ : Hid (j = (A x).length) := by have := hj.out.1; exact (by omega : j = (A x).length)
                clear hlt hje
                go_wp2_with fail
                refine (ag_take_none hT2.out.ag HX.out.1 (by rw [if_pos rfl]; exact HD.out)).mono ?_
                rintro e w8 ⟨rfl, rfl⟩
                have s1 : ((⟨#[]⟩ : ByteArray).toList != (⟨#[]⟩ : ByteArray).toList) = false := by simp
                go_wp2_with fail
                refine (ag_left hT2.out.ag HX.out.1).mono ?_
                rintro e w9 ⟨rfl, rfl⟩
                rw [if_pos rfl, HD.out]
                go_wp2_with fail
                have hw := HWR.out
                go_wp2_with fail
                go_roundg (L.length - (i + 1))
                case measure => have := hk.out.1; have := HI.out; omega
                case rel =>
                  refine ⟨i + 1, m2, D3, V3, by go_num, ⟨by have := hk.out.1; have := HI.out; show _ = _; omega, by have := hk.out.2; have := hj.out.2; have := HJ.out; have := HN.out.2.2 x; omega⟩, ?_⟩
                  have e : (fun y => if y = x then (A x).drop j else if y ∈ L.take i then [] else A y) = (fun y => if y ∈ L.take (i + 1) then [] else A y) := by
                    funext y
                    rw [HD.out, HTK.out]
                    by_cases hyx : y = x
                    · subst hyx
                      rw [if_pos rfl, if_pos (by simp)]
                    · rw [if_neg hyx]
                      by_cases hy : y ∈ L.take i
                      · rw [if_pos hy, if_pos (by simp [hy])]
                      · rw [if_neg hy, if_neg (by simp [hy, hyx])]
                  rw [← e]
                  exact hT2.out
          · have b1 : decide ((i : Int) < (L.length : Int)) = false := by simp; omega
            have b1n : decide (i < L.length) = false := by simp; omega
            have HI : Hid (L.take i = L) := List.take_of_length_le (by omega)
            have HIL : Hid (i ≤ 40) := by have := hk.out.1; have := HN.out.2.1; exact (by omega : i ≤ 40)
            clear hlt
            go_wp2_with fail
            refine (ag_who hT.out.ag (by have := hk.out.2; have := HIL.out; omega)).mono ?_
            rintro e w8 ⟨v, L', rfl, hrow, hsort, hmem, hll, ht⟩
            have h0 : L' = [] := by
              cases L' with
              | nil => rfl
              | cons z L' =>
                exfalso
                have h1 := (hmem z).1 List.mem_cons_self
                rw [HI.out] at h1
                by_cases hz : z ∈ L
                · rw [if_pos hz] at h1; exact h1.2 rfl
                · rw [if_neg hz] at h1; exact hz (HM2.out z h1.1 h1.2)
            subst h0
            obtain ⟨A9, n9, rfl, _⟩ := own_slice hrow
            have HT9 := Lib.hid (hT.out.ag.turn.trans ht)
            clear hrow hsort hmem hll ht
            go_wp2_with fail
            go_ret
            exact ⟨rfl, HT9.out.nopeBelow⟩
end Go.Proofs.Ytdojdhpfhjhmfaa
