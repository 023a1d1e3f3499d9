/- In whatever parts bytes come. -/
import Derived.Test.YtojfknogdknhkaaOfl
import Derived.Test.YtojfknogdknhkaaOpen
set_option maxRecDepth 16000
set_option linter.unusedVariables false
set_option linter.unusedSimpArgs false
namespace Go.Proofs.Ytojfknogdknhkaa
open Go.RowKit Go.ChangeShapes Go.WideShapes Go.Deep
def StrsIn (w : World) (a : Option Addr) (len : Nat) : Prop := len ≤ maxLen ∧ ∀ i, i < len → ∃ (ad : Addr) (S : ByteArray), a = some ad ∧ S.size ≤ maxLen ∧ w.cell? (ad.add i) = some (.string S)
theorem StrsIn.later {w w' : World} {a : Option Addr} {len : Nat} (h : StrsIn w a len) (hb : Below w.heap.size w w') : StrsIn w' a len :=
  ⟨h.1, fun i hi => by obtain ⟨ad, S, e, hS, c0⟩ := h.2 i hi; exact ⟨ad, S, e, hS, cell_later hb c0⟩⟩
section
variable {H : Type} {enc : TypeId × Value → H} {w : World} {a : Option Addr} {len cap : Nat} {d : DataW H} {p : List MemPlace}
theorem open_t31 (h : DataW.Trod enc Try.prog w 0 (fun _ => true) true 31 (.slice a len cap) d p) : StrsIn w a len := by
  obtain ⟨hm, _, he⟩ := open_elems (sz := 1) Try.underlying31 (by kernel_rfl) h
  refine ⟨hm, fun i hi => ?_⟩
  obtain ⟨ad, cs, n, y, ha, hl, hc, ht⟩ := he i hi
  match cs, hl with
  | [c0], _ =>
    obtain ⟨S, rfl, hS⟩ := leaf_str (xs := [y]) (i := 0) Try.underlying9 ht (by simp)
    have := hc 0 (by omega)
    rw [Nat.mul_one, Nat.add_zero] at this
    exact ⟨ad, S, ha, hS, this⟩
end
set_option maxHeartbeats 8000000 in
theorem parts_walk (A : Option Addr) (len cap : Nat) (w : World) (hin : StrsIn w A len) :
    Calls Try.prog 4 #[.slice A len cap] w fun e w' => e = .returned (.bool true) ∧ Below w.heap.size w w' := by
  have HIN := Lib.hid hin
  clear hin
  go_enter Try.func4, Try.ntmps4
  go_wp2_with fail
  refine (awake_any _).mono ?_
  rintro e w1 ⟨rfl, ht⟩
  have H1 := Lib.hid ht
  clear ht
  go_wp2_with fail
  refine (new_h _).mono ?_
  rintro e w2 ⟨p, rfl, hp, hh, ht⟩
  have H2 : Hid (HashIs w2 p [] ∧ Turn Nope w w2 ∧ w.heap.size ≤ p) := ⟨hh, H1.out.trans ht, by have := H1.out.size; omega⟩
  clear hp hh ht H1
  go_wp2_with fail
  go_loopg [4, 5] 9 (fun m v4 v5 wr => ∃ (i : Nat) (X : ByteArray), v5 = .int .i64 (i : Int) ∧ v4 = .string X ∧ Hid (m + i = 9 ∧ X.size ≤ 80 * i) ∧ Hid (HashIs wr p X.data.toList ∧ Turn Nope w wr ∧ w.heap.size ≤ p))
  case atStart => exact ⟨0, ⟨#[]⟩, rfl, rfl, ⟨rfl, by decide⟩, H2.out⟩
  case round =>
    obtain ⟨i, X, rfl, rfl, hi, hS⟩ := hrel
    clear H2
    by_cases hlt : i < len ∧ i < 9
    · obtain ⟨hl1, hl2⟩ := hlt
      have c1 : decide ((i : Int) < (len : Int)) = true := by simp; omega
      have c1n : decide (i < len) = true := by simp; omega
      have c2 : decide ((i : Int) < 9) = true := by simp; omega
      have c2n : decide (i < 9) = true := by simp; omega
      have j0 : (0 : Int) ≤ (i : Int) := by omega
      have j1 : (i : Int) < (len : Int) := by omega
      have HWJ : Hid (wrap64 ((i : Int) + 1) = (i : Int) + 1) := IntWalk.wrap64_in _ ⟨by omega, by omega⟩
      obtain ⟨ad, S, rfl, hSs, cS⟩ := (HIN.out.later hS.out.2.1.nopeBelow).2 i hl1
      go_wp2_with fail
      refine (cut_any S 80 (by decide) _).mono ?_
      rintro e w3 ⟨rfl, rfl⟩
      clear cS
      have hcs := cutP_size S 80
      generalize cutP S 80 = y at hcs ⊢
      go_wp2_with fail
      refine (add_h p _ (by rw [data_len]; have := hi.out; omega) y (by omega) _ hS.out.1).mono ?_
      rintro e w4 ⟨rfl, hh, ht⟩
      rw [← data_app] at hh
      have H4 : Hid (HashIs w4 p (X ++ y).data.toList ∧ Turn Nope w w4 ∧ w.heap.size ≤ p) := ⟨hh, hS.out.2.1.then ht fun k hk => .inr (by have hk : k = p := hk; rw [hk]; exact hS.out.2.2), hS.out.2.2⟩
      clear hh ht hS
      have hXs : ¬ 9223372036854775807 < X.size + y.size := by have := hi.out; omega
      have HXS : Hid ((X ++ y).size ≤ 80 * (i + 1)) := by show _ ≤ _; rw [ByteArray.size_append]; have := hi.out; omega
      go_wp2_with fail
      obtain ⟨Y, hY⟩ : ∃ Y, X ++ y = Y := ⟨_, rfl⟩
      rw [hY] at H4 HXS ⊢
      clear hY hXs
      refine (sum_h p _ (by rw [data_len]; have := HXS.out; omega) _ H4.out.1).mono ?_
      rintro e w5 ⟨rfl, ht⟩
      have H5 : Hid (HashIs w5 p Y.data.toList ∧ Turn Nope w w5 ∧ w.heap.size ≤ p) := ⟨H4.out.1.turn ht fun h => h, H4.out.2.1.trans ht, H4.out.2.2⟩
      clear ht H4
      obtain ⟨s, hs⟩ : ∃ s, sumP Y.data.toList = s := ⟨_, rfl⟩
      have HSS := Lib.hid hs
      rw [hs]
      clear hs
      obtain ⟨O, hO⟩ : ∃ O, outA s = O := ⟨_, rfl⟩
      have HO := Lib.hid hO
      have hos : O.size = 32 := by rw [← hO]; exact outA_size s
      have hoo : ∀ v ∈ O.toList, v.oneCell' = true := by rw [← hO]; exact outA_one s
      rw [hO]
      clear hO
      have HOO := Lib.hid hoo
      clear hoo
      obtain ⟨g, hg⟩ : ∃ g, w5.heap.size = g := ⟨_, rfl⟩
      have hz := blk_new w5 (.cells Z32 24)
      rw [hg] at hz
      have hgp : p ≠ g := by have := H5.out.1.lt; omega
      have HG : Hid ((World.setRow (w5.alloc (.cells Z32 24)) g O).heap[g]? = some (.cells O 24 (0, 0)) ∧ HashIs (World.setRow (w5.alloc (.cells Z32 24)) g O) p Y.data.toList ∧ Turn Nope w (World.setRow (w5.alloc (.cells Z32 24)) g O) ∧ w.heap.size ≤ p) :=
        ⟨setRow_heap _ g Z32 O 24 (0, 0) hz, H5.out.1.turn (((Turn.refl (At g) w5).alloc (.cells Z32 24)).setRow (.inl rfl) O) (fun h => hgp h), (H5.out.2.1.alloc _).setRow (.inr (by rw [← hg]; exact H5.out.2.1.size)) O, H5.out.2.2⟩
      have HZ := Lib.hid hz
      have HGG := Lib.hid hg
      clear hz hg hgp H5
      obtain ⟨XS, hXS⟩ : ∃ XS, strOfNums (stBytes s) = XS := ⟨_, rfl⟩
      have HCV : Hid (∀ W : World, W.heap[g]? = some (.cells O 24 (0, 0)) → (convert 27 9 (.slice (some ⟨g, 0, none⟩) 32 32)).run Try.prog W = .ok (.string XS) W) := fun W h => by
        rw [← HO.out] at h
        rw [← hXS]
        exact conv24 s h
      have HRO : Hid (∀ W : World, Calls Try.prog 10 #[.string Y] W fun e w' => e = .returned (.string XS) ∧ Turn Nope W w') := fun W => by
        have h := refOf_any Y (by have := HXS.out; omega) W
        rw [HSS.out, hXS] at h
        exact h
      clear hXS
      go_wp2_with (refine wpList_storeSum rfl _ _ rfl g Z32 O (by rw [← HGG.out]; rfl) rfl HZ.out rfl hos HOO.out ?_)
      generalize hE : World.setRow (World.alloc w5 _) _ O = w6
      have HW : Hid (w6.heap[g]? = some (.cells O 24 (0, 0)) ∧ HashIs w6 p Y.data.toList ∧ Turn Nope w w6 ∧ w.heap.size ≤ p) := by rw [← hE]; exact HG.out
      try rw [HGG.out]
      clear hE HZ HG
      refine wp_region_held_drew (S := fun W => W.heap[g]? = some (.cells O 24 (0, 0))) (by kernel_rfl) HW.out.1 (fun hHeld => ?_)
      refine' wpAnyH_take (i := 0) (v := _) (by simp only [List.getElem?_toArray, List.getElem?_cons_succ, List.getElem?_cons_zero]; rfl) (by kernel_rfl) (by kernel_rfl) (by kernel_rfl) (by intro _ _ _ h; exact h) (Or.inl ⟨by rfl, ?hyz0⟩) hHeld ?restz0
      case hyz0 => (intro w hSw; (try dsimp only at hSw); go_simp; try (with_reducible rfl))
      simp only [Act.put, List.setIfInBounds_toArray, List.set_cons_zero, List.set_cons_succ]
      refine' wpAnyH_take (i := 1) (v := _) (by simp only [List.getElem?_toArray, List.getElem?_cons_succ, List.getElem?_cons_zero]; rfl) (by kernel_rfl) (by kernel_rfl) (by kernel_rfl) (by intro _ _ _ h; exact h) (Or.inl ⟨by rfl, ?hyz1⟩) hHeld ?restz1
      case hyz1 => (intro w hSw; (try dsimp only at hSw); have hcv := HCV.out w hSw; go_simp; try (with_reducible rfl))
      simp only [Act.put, List.setIfInBounds_toArray, List.set_cons_zero, List.set_cons_succ]
      refine' wpAnyH_take (i := 2) (v := _) (by simp only [List.getElem?_toArray, List.getElem?_cons_succ, List.getElem?_cons_zero]; rfl) (by kernel_rfl) (by kernel_rfl) (by kernel_rfl) (by intro _ _ _ h; exact h) (Or.inl ⟨by rfl, ?hyz2⟩) hHeld ?restz2
      case hyz2 => (intro w hSw; (try dsimp only at hSw); go_simp; try (with_reducible rfl))
      simp only [Act.put, List.setIfInBounds_toArray, List.set_cons_zero, List.set_cons_succ]
      refine wpAnyH_ready (rs := [3]) (by kernel_rfl) (by simp) (AllReadyH.cons (by simp only [List.getElem?_toArray, List.getElem?_cons_succ, List.getElem?_cons_zero]; rfl) (fun K hK => ?_) AllReadyH.nil)
      go_simp
      go_at_call 10
      refine (HRO.out _).mono ?_
      rintro e wN1 ⟨rfl, ht1⟩
      have HN1 := Lib.hid ht1
      clear ht1
      try go_wp2_with fail
      refine hK.out _ _ ?_ (fun hHeld => ?_)
      · exact HN1.out.blk hHeld fun h => h
      clear hK K
      try simp only [Act.put, List.setIfInBounds_toArray, List.set_cons_zero, List.set_cons_succ]
      refine' wpAnyH_take (i := 4) (v := _) (by simp only [List.getElem?_toArray, List.getElem?_cons_succ, List.getElem?_cons_zero]; rfl) (by kernel_rfl) (by kernel_rfl) (by kernel_rfl) (by intro _ _ _ h; exact h) (Or.inl ⟨by rfl, ?hyz4⟩) hHeld ?restz4
      case hyz4 => (intro w hSw; (try dsimp only at hSw); go_simp; try (with_reducible rfl))
      simp only [Act.put, List.setIfInBounds_toArray, List.set_cons_zero, List.set_cons_succ]
      refine wpAnyH_done (by kernel_rfl) ?_ _
      have HF : Hid (HashIs wN1 p Y.data.toList ∧ Turn Nope w wN1 ∧ w.heap.size ≤ p) := ⟨HW.out.2.1.turn ((Turn.refl _ _).drew.trans HN1.out) fun h => h, (HW.out.2.2.1.drew).trans HN1.out, HW.out.2.2.2⟩
      clear HW HN1 hHeld
      go_wp2_with fail
      go_roundg (9 - (i + 1))
      case measure => have := hi.out; omega
      case rel => exact ⟨i + 1, Y, by go_num, rfl, ⟨by have := hi.out; omega, HXS.out⟩, HF.out⟩
    · have e1 : ∃ s, sumP X.data.toList = s := ⟨_, rfl⟩
      obtain ⟨s, hs⟩ := e1
      have heq := eqOut s
      obtain ⟨O, hO⟩ : ∃ O, outA s = O := ⟨_, rfl⟩
      rw [hO] at heq
      have HSM : Hid (∀ W : World, HashIs W p X.data.toList → Calls Try.prog 14 #[.pointer (some ⟨p, 0, none⟩)] W fun e w' => e = .returned (.agg O) ∧ Turn Nope W w') := fun W hW => by
        have h := sum_h p _ (by rw [data_len]; have := hi.out; omega) W hW
        rw [hs, hO] at h
        exact h
      have HOF : Hid (∀ W : World, Calls Try.prog 8 #[.string X] W fun e w' => e = .returned (.agg O) ∧ Turn Nope W w') := fun W => by
        have h := of_any X (by have := hi.out; omega) W
        rw [hs, hO] at h
        exact h
      clear hs hO
      by_cases hl1 : i < len
      · have c1 : decide ((i : Int) < (len : Int)) = true := by simp; omega
        have c1n : decide (i < len) = true := by simp; omega
        have c2 : decide ((i : Int) < 9) = false := by simp; omega
        have c2n : decide (i < 9) = false := by simp; omega
        clear hlt
        go_wp2_with fail
        refine (HSM.out _ hS.out.1).mono ?_
        rintro e w3 ⟨rfl, ht⟩
        have H3 := Lib.hid (hS.out.2.1.trans ht)
        clear ht
        go_wp2_with fail
        refine (HOF.out _).mono ?_
        rintro e w4 ⟨rfl, ht⟩
        have H4 := Lib.hid (H3.out.trans ht)
        clear ht
        go_wp2_with fail
        go_ret
        exact ⟨rfl, H4.out.nopeBelow⟩
      · have c1 : decide ((i : Int) < (len : Int)) = false := by simp; omega
        have c1n : decide (i < len) = false := by simp; omega
        clear hlt
        go_wp2_with fail
        refine (HSM.out _ hS.out.1).mono ?_
        rintro e w3 ⟨rfl, ht⟩
        have H3 := Lib.hid (hS.out.2.1.trans ht)
        clear ht
        go_wp2_with fail
        refine (HOF.out _).mono ?_
        rintro e w4 ⟨rfl, ht⟩
        have H4 := Lib.hid (H3.out.trans ht)
        clear ht
        go_wp2_with fail
        go_ret
        exact ⟨rfl, H4.out.nopeBelow⟩
end Go.Proofs.Ytojfknogdknhkaa
