/- Any ops: the document and the document's answer go side by side. -/
import Derived.Test.YtbcdjdbdjcflgaaRdo
import Derived.Test.YtbcdjdbdjcflgaaRn
import Derived.Test.YtbcdjdbdjcflgaaOps
import Derived.Deep.DeepCutAuto
import Derived.Deep.CutBlock
import Derived.Deep.RegionHeld3
set_option linter.unusedSimpArgs false
set_option linter.unusedVariables false
namespace Go.Proofs.Ytbcdjdbdjcflgaa
open Go.RowKit Go.Lib PTextPlays Go.Proofs.YtbcdjdbdjcflgaaW.PrintWords Go.Proofs.YtbcdjdbdjcflgaaW.PrintLast Go.Proofs.YtbcdjdbdjcflgaaW.PrintMore
theorem dDo_size (s : ByteArray) (k at_ : Int) (S : ByteArray) (n : Int) (hs : s.size ≤ 200) : (dDo s k at_ S n).1.size ≤ 200 := by
  by_cases h : chk k at_ S n = 0
  · rcases chk_kind h with rfl | rfl
    · have hc := chk_ins h
      rw [dDo, if_neg (by rw [h]; simp), if_pos rfl]
      split
      · exact hs
      split
      · exact hs
      simp only [ByteArray.size_append, ByteArray.size_extract]; omega
    · have hc := chk_del h
      rw [dDo, if_neg (by rw [h]; simp), if_neg (by decide)]
      split
      · exact hs
      simp only [ByteArray.size_append, ByteArray.size_extract]; omega
  · rw [dDo, if_pos h]; exact hs
/-- Between two ops. -/
def DI (w : World) (g : Nat) (s : ByteArray) (W : World) : Prop := IsDoc W g s ∧ Turn Nope w W
theorem DI.nope {w W W' : World} {g : Nat} {s : ByteArray} (h : DI w g s W) (ht : Turn Nope W W') : DI w g s W' := ⟨ht.blk h.1 id, h.2.trans ht⟩
theorem DI.fst {w W : World} {g : Nat} {s : ByteArray} {R : Prop} (h : DI w g s W ∧ R) : DI w g s W := h.1
/-- Behind an op: the document, the op. -/
def DQ (w : World) (g : Nat) (s : ByteArray) (q : Nat) (k p : Int) (S : ByteArray) (n : Int) (W : World) : Prop := DI w g s W ∧ W.heap[q]? = some (.cells #[.int .i64 k, .int .i64 p, .string S, .int .i64 n] 31 (0, 0))
theorem DQ.nope {w W W' : World} {g q : Nat} {s S : ByteArray} {k p n : Int} (h : DQ w g s q k p S n W) (ht : Turn Nope W W') : DQ w g s q k p S n W' := ⟨h.1.nope ht, ht.blk h.2 id⟩
theorem DQ.fst {w W : World} {g q : Nat} {s S : ByteArray} {k p n : Int} {R : Prop} (h : DQ w g s q k p S n W ∧ R) : DQ w g s q k p S n W := h.1
theorem DQ.all {w W : World} {g q : Nat} {s S : ByteArray} {k p n : Int} (h : DQ w g s q k p S n W) : DQ w g s q k p S n W ∧ W.cell? ⟨q, 0, none⟩ = some (.int .i64 k) ∧ W.cell? ⟨q, 1, none⟩ = some (.int .i64 p) ∧ W.cell? ⟨q, 2, none⟩ = some (.string S) ∧ W.cell? ⟨q, 3, none⟩ = some (.int .i64 n) :=
  ⟨h, (blk_cell h.2 0).trans rfl, (blk_cell h.2 1).trans rfl, (blk_cell h.2 2).trans rfl, (blk_cell h.2 3).trans rfl⟩
set_option maxRecDepth 8000 in
set_option maxHeartbeats 4000000 in
theorem plays_any (a : Option Addr) (len cap : Nat) (w : World) (ha : OpsIn w a len) : Calls Try.prog 5 #[.slice a len cap] w fun e w' => e = .returned (.bool true) ∧ Below w.heap.size w w' := by
  have HOP := Lib.hid ha
  have HLM := Lib.hid ha.1
  clear ha
  go_enter Try.func5, Try.ntmps5
  go_wp2_with (first
    | (go_at_call 7; refine (awake_any _).mono ?_; rintro e w1 ⟨rfl, ht⟩; have HT := Lib.hid ht; clear ht)
    | (go_at_call 8; refine (new_any _).mono ?_; rintro e w2 ⟨g, rfl, hd, hg, ht⟩; have HD := Lib.hid hd; have HG := Lib.hid (Nat.le_trans HT.out.size hg); have HT := Lib.hid (HT.out.trans ht); clear hd hg ht))
  have HDI : Hid (DI w g ⟨#[]⟩ w2) := ⟨HD.out, HT.out⟩
  clear HD HT
  go_loopg [4, 5] 40 (fun gk v4 v5 wr => ∃ (j : Nat) (s : ByteArray), v4 = .string s ∧ v5 = .int .i64 (j : Int) ∧ Hid (gk + j = 40 ∧ s.size ≤ 200) ∧ DI w g s wr)
  case atStart => exact ⟨0, ⟨#[]⟩, rfl, rfl, ⟨rfl, by decide⟩, HDI.out⟩
  case round =>
    obtain ⟨j, s, rfl, rfl, hj, hdi⟩ := hrel
    have HS := Lib.hid hdi
    clear hdi
    rename World => wl
    have hj40 : j ≤ 40 := by have := hj.out.1; omega
    have hlm := HLM.out
    have hwj : wrap64 ((j : Int) + 1) = (j : Int) + 1 := IntWalk.wrap64_in _ ⟨by omega, by omega⟩
    by_cases hlt : j < len
    · have b1 : decide ((j : Int) < (len : Int)) = true := by simp; omega
      by_cases h40 : j < 40
      · have b2 : decide ((j : Int) < (40 : Int)) = true := by simp; omega
        obtain ⟨ad, k, p, S, n, rfl, _, c0, c1, c2, c3⟩ := (HOP.out.later HS.out.2.nopeBelow).2 j hlt
        go_upto_region 12 with (first
          | (go_at_call 11; refine (few_any k p S n _).mono ?_; rintro e w3 ⟨rfl, ht⟩; have HS := Lib.hid (HS.out.nope ht); have hlt3 : g < w3.heap.size := blk_lt HS.out.1; clear ht; (generalize cut S 45 = S'); have HQ := Lib.hid (blk_new w3 (.cells #[.int .i64 k, .int .i64 p, .string S', .int .i64 n] 31)); have HSA := Lib.hid (HS.out.nope ((Turn.refl Nope w3).alloc (.cells #[.int .i64 k, .int .i64 p, .string S', .int .i64 n] 31))))
          | (go_at_call 10; refine (do_any g s k p S' n _ HSA.out.1 hj.out.2).mono ?_; rintro e w5 ⟨rfl, hd, ht⟩; have HS5 : Hid (DI w g (dDo s k p S' n).1 w5) := ⟨hd, HSA.out.2.then ht (fun i hi => .inr (by have : i = g := hi; rw [this]; exact HG.out))⟩; have HQ5 := Lib.hid (ht.blk HQ.out (by show ¬ (w3.heap.size = g); omega)); have k0 := blk_cell HQ5.out 0; have k1 := blk_cell HQ5.out 1; have k2 := blk_cell HQ5.out 2; have k3 := blk_cell HQ5.out 3; (simp at k0 k1 k2 k3); clear hd ht)
          | (go_at_call 14; refine (rdo_any s k p S' n _ hj.out.2).mono ?_; rintro e w6 ⟨rfl, hb⟩; have HS6 := Lib.hid (HS5.out.nope (Turn.toNope hb)); have HQ6 := Lib.hid ((Turn.toNope hb).blk HQ5.out id); clear hb))
        obtain ⟨s', gone, cc, E⟩ : ∃ s' gone c, dDo s k p S' n = (s', gone, c) := ⟨_, _, _, rfl⟩
        have hsz := dDo_size s k p S' n hj.out.2
        have HDQ : Hid (DQ w g s' w3.heap.size k p S' n w6.drew) := by
          have := HS6.out
          rw [E] at this
          exact ⟨this.nope (Turn.refl _ _).drew, blk_drew HQ6.out⟩
        rw [E] at hsz ⊢
        dsimp only at hsz ⊢
        have HSZ := Lib.hid hsz
        clear hsz E HS6 HQ6 HQ5 HS5 HSA HQ k0 k1 k2 k3
        generalize w3.heap.size = q at HDQ ⊢
        have e1 : (gone.toList != gone.toList) = false := by simp
        have e2 : (cc != cc) = false := by simp
        have e3 : (chk k p S' n != chk k p S' n) = false := by simp
        have e4 : (s'.toList != s'.toList) = false := by simp
        go_region_held3 (fun W => DQ w g s' q k p S' n W ∧ W.cell? ⟨q, 0, none⟩ = some (.int .i64 k) ∧ W.cell? ⟨q, 1, none⟩ = some (.int .i64 p) ∧ W.cell? ⟨q, 2, none⟩ = some (.string S') ∧ W.cell? ⟨q, 3, none⟩ = some (.int .i64 n)) (first | exact HDQ.out.all | assumption)
          (first
            | (go_at_call 13; refine (check_any k p S' n _).mono ?_; rintro e w13 ⟨rfl, ht⟩; have HDQ := Lib.hid ((DQ.fst (by assumption)).nope ht); clear ht)
            | (go_at_call 15; refine (rcheck_any k p S' n _).mono ?_; rintro e w15 ⟨rfl, hb⟩; have HDQ := Lib.hid ((DQ.fst (by assumption)).nope (Turn.toNope hb)); clear hb)
            | (go_at_call 9; refine (text_any g s' _ HDQ.out.1.1).mono ?_; rintro e w9 ⟨rfl, hw⟩; have HDQ := Lib.hid (show DQ w g s' q k p S' n w9 by rw [← hw]; exact HDQ.out); clear hw))
        go_wp2_with fail
        go_roundg (40 - (j + 1))
        case measure => have := hj.out.1; omega
        case rel => exact ⟨j + 1, s', rfl, by go_num, ⟨by omega, HSZ.out⟩, HDQ.out.1⟩
      · have b2 : decide ((j : Int) < (40 : Int)) = false := by simp; omega
        have b5 : (s.toList == s.toList) = true := by simp
        have b6 : ((saved s).toList == (saved s).toList) = true := by simp
        clear HDI
        go_wp2_with (first
            | (go_at_call 17; refine (save_any g s _ HS.out.1 hj.out.2).mono ?_; rintro e w7 ⟨rfl, ht⟩; have HS := Lib.hid (HS.out.nope ht); clear ht)
            | (go_at_call 16; refine (load_any s _ hj.out.2).mono ?_; rintro e w8 ⟨g2, rfl, hd, hg, ht⟩; have HS := Lib.hid (HS.out.nope ht); have HD2 := Lib.hid hd; clear hd hg ht)
            | (go_at_call 9; first | (refine (text_any g2 s _ HD2.out).mono ?_; rintro e w9 ⟨rfl, rfl⟩) | (refine (text_any g s _ HS.out.1).mono ?_; rintro e w9 ⟨rfl, rfl⟩))
            | (go_at_call 18; refine (rstr_any s hj.out.2 _).mono ?_; rintro e w10 ⟨rfl, hb⟩; have HS := Lib.hid (HS.out.nope (Turn.toNope hb)); clear hb))
        go_ret
        exact ⟨rfl, HS.out.2.nopeBelow⟩
    · have b1 : decide ((j : Int) < (len : Int)) = false := by simp; omega
      have b5 : (s.toList == s.toList) = true := by simp
      have b6 : ((saved s).toList == (saved s).toList) = true := by simp
      clear HDI
      go_wp2_with (first
            | (go_at_call 17; refine (save_any g s _ HS.out.1 hj.out.2).mono ?_; rintro e w7 ⟨rfl, ht⟩; have HS := Lib.hid (HS.out.nope ht); clear ht)
            | (go_at_call 16; refine (load_any s _ hj.out.2).mono ?_; rintro e w8 ⟨g2, rfl, hd, hg, ht⟩; have HS := Lib.hid (HS.out.nope ht); have HD2 := Lib.hid hd; clear hd hg ht)
            | (go_at_call 9; first | (refine (text_any g2 s _ HD2.out).mono ?_; rintro e w9 ⟨rfl, rfl⟩) | (refine (text_any g s _ HS.out.1).mono ?_; rintro e w9 ⟨rfl, rfl⟩))
            | (go_at_call 18; refine (rstr_any s hj.out.2 _).mono ?_; rintro e w10 ⟨rfl, hb⟩; have HS := Lib.hid (HS.out.nope (Turn.toNope hb)); clear hb))
      go_ret
      exact ⟨rfl, HS.out.2.nopeBelow⟩
theorem plays_walk (a : Option Addr) (len cap : Nat) (w : World) (ha : OpsIn w a len) : Calls Try.prog 5 #[.slice a len cap] w fun e w' => e = .returned (.bool true) ∧ Below w.heap.size w w' := plays_any a len cap w ha
end Go.Proofs.Ytbcdjdbdjcflgaa
