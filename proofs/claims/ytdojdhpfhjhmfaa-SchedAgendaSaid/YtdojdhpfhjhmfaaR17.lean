/- The document's schedule in memory: the walks of due and drop. -/
import Derived.Test.YtdojdhpfhjhmfaaApp
import Derived.Test.YtdojdhpfhjhmfaaShare
set_option maxRecDepth 16000
set_option linter.unusedVariables false
namespace Go.Proofs.Ytdojdhpfhjhmfaa
open Go.RowKit
structure One3 where
  who : Int
  at_ : Int
  since : Int
def oneCells (x : One3) : List Value := [.int .i64 x.who, .int .i64 x.at_, .int .i64 x.since]
structure RS where
  P : List Int
  L : List One3
  t : Int
  c : Int
structure RV (b : Nat) (w : World) (vP vL : Value) (P : List Int) (L : List One3) : Prop where
  p : w.ownsRow b 3 1 vP P.length (nums P)
  l : w.ownsRow b 82 3 vL L.length (L.flatMap oneCells)
variable {b : Nat} {w w' : World} {vP vL : Value} {P : List Int} {L : List One3} {t c : Int}
theorem RV.nope (h : RV b w vP vL P L) (ht : Turn Nope w w') : RV b w' vP vL P L := ⟨own_nope h.p ht, own_nope h.l ht⟩
theorem RV.lower {b' : Nat} (h : RV b w vP vL P L) (hb : b' ≤ b) : RV b' w vP vL P L := ⟨own_lower h.p hb, own_lower h.l hb⟩
theorem flat_at {α : Type} (f : α → List Value) (k : Nat) (hf : ∀ x, (f x).length = k) : ∀ (L : List α) (j : Nat) (x : α) (i : Nat), L[j]? = some x → i < k → (L.flatMap f)[j * k + i]? = (f x)[i]?
  | [], j, x, i, h, _ => by simp at h
  | y :: L, 0, x, i, h, hi => by
    injection h with h
    subst h
    rw [List.flatMap_cons, Nat.zero_mul, Nat.zero_add, List.getElem?_append_left (by rw [hf]; exact hi)]
  | y :: L, j + 1, x, i, h, hi => by
    have h : L[j]? = some x := h
    rw [List.flatMap_cons, List.getElem?_append_right (by rw [hf, Nat.add_mul]; omega), hf]
    rw [show (j + 1) * k + i - k = j * k + i by rw [Nat.add_mul]; omega]
    exact flat_at f k hf L j x i h hi
theorem RV.at_ (h : RV b w vP vL P L) {j : Nat} {x : One3} (hj : L[j]? = some x) : ∃ g cp, vL = .slice (some ⟨g, 0, none⟩) L.length cp ∧ w.cell? ⟨g, j * 3, none⟩ = some (.int .i64 x.who) ∧ w.cell? ⟨g, j * 3 + 1, none⟩ = some (.int .i64 x.at_) ∧ w.cell? ⟨g, j * 3 + 2, none⟩ = some (.int .i64 x.since) := by
  have hlt : j < L.length := (List.getElem?_eq_some_iff.1 hj).1
  obtain ⟨g, cp, e, _⟩ := World.ownsRow.form h.l (by omega)
  have hl := h.l
  rw [e] at hl
  have key : ∀ i u, i < 3 → (oneCells x)[i]? = some u → w.cell? ⟨g, j * 3 + i, none⟩ = some u := fun i u hi hu => own_elem hl _ (by rw [flat_at oneCells 3 (fun _ => rfl) L j x i hj hi, hu])
  exact ⟨g, cp, e, key 0 _ (by omega) rfl, key 1 _ (by omega) rfl, key 2 _ (by omega) rfl⟩
theorem Try.info82 : (Try.prog.info? 82).map (fun i => (i.zero, i.size, i.bytes)) = some (some (.agg #[.int .i64 0, .int .i64 0, .int .i64 0]), 3, 24) := by kernel_rfl
theorem one_cells : ∀ L : List One3, ∀ u ∈ L.flatMap oneCells, u.oneCell' = true := by
  intro L u hu
  obtain ⟨x, _, hx⟩ := List.mem_flatMap.1 hu
  unfold oneCells at hx
  simp at hx
  rcases hx with rfl | rfl | rfl <;> rfl
def rdropL (who : Int) (L : List One3) : List One3 := L.filter fun x => x.who != who
theorem rdrop_len (who : Int) (L : List One3) : (rdropL who L).length ≤ L.length := List.length_filter_le _ _
theorem take_snoc' {α : Type} {L : List α} {i : Nat} {x : α} (hx : L[i]? = some x) : L.take (i + 1) = L.take i ++ [x] := by
  obtain ⟨hl, e⟩ := List.getElem?_eq_some_iff.1 hx
  rw [List.take_succ_eq_append_getElem hl, e]
theorem rdrop_snoc (who : Int) {L : List One3} {i : Nat} {x : One3} (hx : L[i]? = some x) : rdropL who (L.take (i + 1)) = if x.who = who then rdropL who (L.take i) else rdropL who (L.take i) ++ [x] := by
  rw [take_snoc' hx]
  unfold rdropL
  rw [List.filter_append]
  by_cases h : x.who = who
  · rw [if_pos h]; simp [h]
  · rw [if_neg h]; simp [h]
/-- Four stores into one block. -/
def store4 (w : World) (g : Nat) (a b c d : Value) : World := (((w.setCell ⟨g, 0, none⟩ a).setCell ⟨g, 1, none⟩ b).setCell ⟨g, 2, none⟩ c).setCell ⟨g, 3, none⟩ d
theorem store4_blk {w : World} {g : Nat} {x y z u : Value} {t : TypeId} (h : w.heap[g]? = some (.cells #[x, y, z, u] t (0, 0))) (a b c d : Value) : (store4 w g a b c d).heap[g]? = some (.cells #[a, b, c, d] t (0, 0)) := by
  have := blk_set (blk_set (blk_set (blk_set h 0 a) 1 b) 2 c) 3 d
  simpa [store4] using this
set_option maxHeartbeats 4000000 in
theorem ref_drop (h : RV b w vP vL P L) (hb : b ≤ w.heap.size) (hL : L.length ≤ 1000) (t c who : Int) :
    Calls Try.prog 33 #[.agg #[vP, vL, .int .i64 t, .int .i64 c], .int .i64 who] w fun e w' => ∃ vL', e = .returned (.agg #[vP, vL', .int .i64 t, .int .i64 c]) ∧ RV b w' vP vL' P (rdropL who L) ∧ Turn Nope w w' := by
  obtain ⟨A1, c1, rfl, _⟩ := own_slice h.p
  obtain ⟨A2, c2, rfl, _⟩ := own_slice h.l
  have HR := Lib.hid h
  obtain ⟨i82, hi82, hz82, hs82, hb82⟩ := info_parts Try.info82
  have I82 := Lib.hid (And.intro hi82 (And.intro hz82 (And.intro hs82 hb82)))
  clear hi82 hz82 hs82 hb82 h
  go_enter Try.func33, Try.ntmps33
  go_wp2_with fail
  have hz := Nat.le_refl w.heap.size
  obtain ⟨w1, hw1⟩ : ∃ w1, ((w.alloc (.cells #[.slice A1 P.length c1, .slice A2 L.length c2, .int .i64 t, .int .i64 c] 40)).alloc (.cells #[.slice none 0 0, .slice none 0 0, .int .i64 0, .int .i64 0] 40)).alloc (.cells #[] 82) = w1 := ⟨_, rfl⟩
  have HB0 : Hid (w1.heap[w.heap.size]? = some (.cells #[.slice A1 P.length c1, .slice A2 L.length c2, .int .i64 t, .int .i64 c] 40 (0, 0))) := by rw [← hw1]; exact blk_alloc (blk_alloc (blk_new _ _) _) _
  have HB1 : Hid (w1.heap[w.heap.size + 1]? = some (.cells #[.slice none 0 0, .slice none 0 0, .int .i64 0, .int .i64 0] 40 (0, 0))) := by
    rw [← hw1]
    refine blk_alloc ?_ _
    have := blk_new (w.alloc (.cells #[.slice A1 P.length c1, .slice A2 L.length c2, .int .i64 t, .int .i64 c] 40)) (.cells #[.slice none 0 0, .slice none 0 0, .int .i64 0, .int .i64 0] 40)
    simpa using this
  have HB2 : Hid (w1.ownsRow w.heap.size 82 3 (.slice (some ⟨w.heap.size + 1 + 1, 0, none⟩) 0 0) 0 []) := by
    refine ⟨rfl, .inr ⟨w.heap.size + 1 + 1, 0, #[], rfl, by omega, ?_, Nat.le_refl _, Nat.zero_le _, rfl, rfl⟩⟩
    rw [← hw1]
    have := blk_new ((w.alloc (.cells #[.slice A1 P.length c1, .slice A2 L.length c2, .int .i64 t, .int .i64 c] 40)).alloc (.cells #[.slice none 0 0, .slice none 0 0, .int .i64 0, .int .i64 0] 40)) (.cells #[] 82)
    simpa using this
  have HT1 : Hid (Turn Nope w w1) := by rw [← hw1]; exact (((Turn.refl _ _).alloc _).alloc _).alloc _
  rw [hw1]
  clear hw1 hz
  obtain ⟨H, hH⟩ : ∃ H, w.heap.size = H := ⟨_, rfl⟩
  have HH := Lib.hid hH
  rw [hH] at HB0 HB1 HB2 hb ⊢
  clear hH
  go_loopg [5, 12] L.length (fun k u5 v12 wr => ∃ (i : Nat), v12 = .int .i64 (i : Int) ∧ Hid (k + i = L.length) ∧ Hid (wr.ownsRow H 82 3 u5 (rdropL who (L.take i)).length ((rdropL who (L.take i)).flatMap oneCells) ∧ Turn Nope w wr ∧ wr.heap[H]? = some (.cells #[.slice A1 P.length c1, .slice A2 L.length c2, .int .i64 t, .int .i64 c] 40 (0, 0)) ∧ wr.heap[H + 1]? = some (.cells #[.slice none 0 0, .slice none 0 0, .int .i64 0, .int .i64 0] 40 (0, 0))))
  case atStart => exact ⟨0, rfl, rfl, HB2.out, HT1.out, HB0.out, HB1.out⟩
  case round =>
    obtain ⟨i, rfl, hk, hS⟩ := hrel
    clear HB0 HB1 HB2 HT1
    by_cases hlt : i < L.length
    · have b1 : decide ((i : Int) < (L.length : Int)) = true := by simp; omega
      have b1n : decide (i < L.length) = true := by simp; omega
      obtain ⟨x, hx⟩ : ∃ x, L[i]? = some x := ⟨L[i], List.getElem?_eq_getElem hlt⟩
      obtain ⟨g, cp, e1, a0, a1, a2⟩ := (HR.out.nope hS.out.2.1).at_ hx
      injection e1 with e1 e2 e3
      subst e1; subst e3
      have i0 : (0 : Int) ≤ (i : Int) := by omega
      have i1 : (i : Int) < (L.length : Int) := by omega
      have HW : Hid (wrap64 ((i : Int) + 1) = (i : Int) + 1) := IntWalk.wrap64_in _ ⟨by omega, by omega⟩
      have HSN := Lib.hid (rdrop_snoc who hx)
      have HLN : Hid ((rdropL who (L.take i)).length ≤ i) := Nat.le_trans (rdrop_len who _) (List.length_take_le _ _)
      clear e2
      by_cases he : x.who = who
      · have d1 : (x.who != who) = false := by simp [he]
        rw [if_pos he] at HSN
        clear hx he
        go_wp2_with fail
        have hw := HW.out
        try go_wp2_with fail
        go_roundg (L.length - (i + 1))
        case measure => have := hk.out; omega
        case rel =>
          refine ⟨i + 1, by go_num, by have := hk.out; show _ = _; omega, ?_⟩
          rw [HSN.out]
          have ht := Turn.alloc (Turn.refl Nope wr) (.cells #[.int .i64 x.who, .int .i64 x.at_, .int .i64 x.since] 82)
          exact ⟨own_nope hS.out.1 ht, hS.out.2.1.trans ht, ht.blk hS.out.2.2.1 (fun h => h), ht.blk hS.out.2.2.2 (fun h => h)⟩
      · have d1 : (x.who != who) = true := by simp [he]
        rw [if_neg he] at HSN
        clear hx he
        have HX : Hid (∀ j u, [Value.int .i64 x.who, .int .i64 x.at_, .int .i64 x.since][j]? = some u → ((wr.alloc (.cells #[.int .i64 x.who, .int .i64 x.at_, .int .i64 x.since] 82)).alloc (.cells #[.int .i64 x.who, .int .i64 x.at_, .int .i64 x.since] 82)).cell? ((⟨wr.heap.size + 1, 0, none⟩ : Addr).add j) = some u) := by
          intro j u hj
          have := news_new (wr.alloc (.cells #[.int .i64 x.who, .int .i64 x.at_, .int .i64 x.since] 82)) #[.int .i64 x.who, .int .i64 x.at_, .int .i64 x.since] 82 j u hj
          simpa using this
        go_wp2_with (first
          | (at_builtin; refine wpList_append_lies _ rfl _ _ _ rfl H 82 i82 _ 3 24 Try.underlying38 I82.out.1 I82.out.2.1 I82.out.2.2.1 I82.out.2.2.2 rfl (by omega) u5 (rdropL who (L.take i)).length ((rdropL who (L.take i)).flatMap oneCells) rfl (own_nope hS.out.1 (((Turn.refl _ _).alloc _).alloc _)) ⟨wr.heap.size + 1, 0, none⟩ 1 1 [.int .i64 x.who, .int .i64 x.at_, .int .i64 x.since] rfl rfl HX.out (by intro u hu; simp at hu; rcases hu with rfl | rfl | rfl <;> rfl) (by omega) (by show _ + 1 ≤ 9223372036854775807; have := HLN.out; omega) (by have := HLN.out; omega) (by have h1 := hS.out.2.1.size; have h2 := HH.out; simp; omega) (wr.heap.size + 1 + 1) (by simp) ?_; intro g1 cap1 w6 hown hgr hat hlt2; have HO6 := Lib.hid hown; have HG6 := Lib.hid hgr; clear hown hgr hat hlt2))
        have hw := HW.out
        try go_wp2_with fail
        go_roundg (L.length - (i + 1))
        case measure => have := hk.out; omega
        case rel =>
          refine ⟨i + 1, by go_num, by have := hk.out; show _ = _; omega, ?_⟩
          rw [HSN.out, List.length_append, List.flatMap_append]
          have ht := (Turn.alloc (Turn.refl Nope wr) (.cells #[.int .i64 x.who, .int .i64 x.at_, .int .i64 x.since] 82)).alloc (.cells #[.int .i64 x.who, .int .i64 x.at_, .int .i64 x.since] 82)
          have hr := own_nope hS.out.1 ht
          have hne : ∀ {g : Nat} {cs : Array Value}, wr.heap[g]? = some (.cells cs 40 (0, 0)) → w6.heap[g]? = some (.cells cs 40 (0, 0)) := fun {g cs} hg => blk_grown (ht.blk hg (fun h => h)) HG6.out (fun e => own_ne hr (ht.blk hg (fun h => h)) (by decide) g e rfl)
          exact ⟨HO6.out, (hS.out.2.1.trans ht).growR HG6.out hr (Nat.le_of_eq HH.out), hne hS.out.2.2.1, hne hS.out.2.2.2⟩
    · obtain rfl : i = L.length := by have := hk.out; omega
      have b1 : decide ((L.length : Int) < (L.length : Int)) = false := by simp
      clear hlt
      have HS := Lib.hid hS.out
      rw [List.take_length] at HS
      obtain ⟨A3, cp3, rfl, _⟩ := own_slice HS.out.1
      have k0 := blk_cell HS.out.2.2.1 0
      have k1 := blk_cell HS.out.2.2.1 1
      have k2 := blk_cell HS.out.2.2.1 2
      have k3 := blk_cell HS.out.2.2.1 3
      have f0 := blk_frozen HS.out.2.2.1 1
      have e0 := blk_cell HS.out.2.2.2 0
      have e1 := blk_cell HS.out.2.2.2 1
      have e2 := blk_cell HS.out.2.2.2 2
      have e3 := blk_cell HS.out.2.2.2 3
      have g0 := blk_frozen HS.out.2.2.2 0
      have g1 := blk_frozen HS.out.2.2.2 1
      have g2 := blk_frozen HS.out.2.2.2 2
      have g3 := blk_frozen HS.out.2.2.2 3
      simp only [List.getElem?_toArray, List.getElem?_cons_zero, List.getElem?_cons_succ] at k0 k1 k2 k3 e0 e1 e2 e3
      go_wp2_with fail
      have HE := Lib.hid (store4_blk (blk_far HS.out.2.2.2 (p := ⟨H, 1, none⟩) (show H + 1 ≠ H by omega) (.slice A3 (rdropL who L).length cp3)) (.slice A1 P.length c1) (.slice A3 (rdropL who L).length cp3) (.int .i64 t) (.int .i64 c))
      have hz := HH.out
      have HTE : Hid (Turn Nope w (store4 (wr.setCell ⟨H, 1, none⟩ (.slice A3 (rdropL who L).length cp3)) (H + 1) (.slice A1 P.length c1) (.slice A3 (rdropL who L).length cp3) (.int .i64 t) (.int .i64 c))) :=
        ((((HS.out.2.1.set_new (by omega) _).set_new (by omega) _).set_new (by omega) _).set_new (by omega) _).set_new (by omega) _
      have HOE : Hid ((store4 (wr.setCell ⟨H, 1, none⟩ (.slice A3 (rdropL who L).length cp3)) (H + 1) (.slice A1 P.length c1) (.slice A3 (rdropL who L).length cp3) (.int .i64 t) (.int .i64 c)).ownsRow H 82 3 (.slice A3 (rdropL who L).length cp3) (rdropL who L).length ((rdropL who L).flatMap oneCells)) := by
        have n1 := own_ne HS.out.1 HS.out.2.2.1 (by decide)
        have n2 := own_ne HS.out.1 HS.out.2.2.2 (by decide)
        have hT : Turn (fun k => k = H ∨ k = H + 1) wr (store4 (wr.setCell ⟨H, 1, none⟩ (.slice A3 (rdropL who L).length cp3)) (H + 1) (.slice A1 P.length c1) (.slice A3 (rdropL who L).length cp3) (.int .i64 t) (.int .i64 c)) :=
          (((((Turn.refl _ _).setCell (p := ⟨H, 1, none⟩) (.inl (.inl rfl)) _).setCell (p := ⟨H + 1, 0, none⟩) (.inl (.inr rfl)) _).setCell (p := ⟨H + 1, 1, none⟩) (.inl (.inr rfl)) _).setCell (p := ⟨H + 1, 2, none⟩) (.inl (.inr rfl)) _).setCell (p := ⟨H + 1, 3, none⟩) (.inl (.inr rfl)) _
        exact own_turn HS.out.1 hT fun k hk hk' => hk'.elim (n1 k hk) (n2 k hk)
      clear k0 k1 k2 k3 e0 e1 e2 e3 f0 g0 g1 g2 g3
      change bodyPost _ _ _ _ _ (store4 (wr.setCell ⟨H, 1, none⟩ (.slice A3 (rdropL who L).length cp3)) (H + 1) (.slice A1 P.length c1) (.slice A3 (rdropL who L).length cp3) (.int .i64 t) (.int .i64 c))
      generalize store4 (wr.setCell ⟨H, 1, none⟩ (.slice A3 (rdropL who L).length cp3)) (H + 1) (.slice A1 P.length c1) (.slice A3 (rdropL who L).length cp3) (.int .i64 t) (.int .i64 c) = wE at *
      have e0 := blk_cell HE.out 0
      have e1 := blk_cell HE.out 1
      have e2 := blk_cell HE.out 2
      have e3 := blk_cell HE.out 3
      simp only [List.getElem?_toArray, List.getElem?_cons_zero, List.getElem?_cons_succ] at e0 e1 e2 e3
      refine bodyPost_ret (v := .agg #[.slice A1 P.length c1, .slice A3 (rdropL who L).length cp3, .int .i64 t, .int .i64 c]) (by simp [results, Try.results33, go_sem, e0, e1, e2, e3]) rfl ⟨_, rfl, ⟨own_nope HR.out.p HTE.out, own_lower HOE.out hb⟩, HTE.out⟩
end Go.Proofs.Ytdojdhpfhjhmfaa
