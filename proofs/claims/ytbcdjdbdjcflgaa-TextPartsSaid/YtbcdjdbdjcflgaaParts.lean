/- Bytes that come in two parts: the law walked. -/
import Derived.Test.YtbcdjdbdjcflgaaPl
import Derived.Deep.DeepCutAuto
import Derived.Deep.CutBlock
set_option linter.unusedSimpArgs false
set_option linter.unusedVariables false
namespace Go.Proofs.Ytbcdjdbdjcflgaa
open Go.RowKit Go.Lib
/-- Two documents. -/
structure DD (w : World) (g g2 : Nat) (s t : ByteArray) (W : World) : Prop where
  a : IsDoc W g s
  b : IsDoc W g2 t
  tn : Turn Nope w W
  ga : w.heap.size ≤ g
  gb : w.heap.size ≤ g2
  ne : g ≠ g2
theorem DD.do1 {w W : World} {g g2 : Nat} {s t : ByteArray} (h : DD w g g2 s t W) (k p : Int) (S : ByteArray) (n : Int) (s' o : ByteArray) (c : Int) (E : dDo s k p S n = (s', o, c)) (hs : s.size ≤ 200) :
    Calls Try.prog 10 #[.pointer (some ⟨g, 0, none⟩), .agg #[.int .i64 k, .int .i64 p, .string S, .int .i64 n]] W fun e W' => e = .returned (.tuple #[.string o, .int .i64 c]) ∧ DD w g g2 s' t W' := by
  refine (do_any g s k p S n W h.a hs).mono ?_
  rintro e W' ⟨rfl, hd, ht⟩
  rw [E] at hd ⊢
  exact ⟨rfl, hd, ht.blk h.b (by show ¬ (g2 = g); exact fun e => h.ne e.symm), h.tn.then ht (fun i hi => .inr (by have : i = g := hi; rw [this]; exact h.ga)), h.ga, h.gb, h.ne⟩
theorem DD.do2 {w W : World} {g g2 : Nat} {s t : ByteArray} (h : DD w g g2 s t W) (k p : Int) (S : ByteArray) (n : Int) (t' o : ByteArray) (c : Int) (E : dDo t k p S n = (t', o, c)) (hs : t.size ≤ 200) :
    Calls Try.prog 10 #[.pointer (some ⟨g2, 0, none⟩), .agg #[.int .i64 k, .int .i64 p, .string S, .int .i64 n]] W fun e W' => e = .returned (.tuple #[.string o, .int .i64 c]) ∧ DD w g g2 s t' W' := by
  refine (do_any g2 t k p S n W h.b hs).mono ?_
  rintro e W' ⟨rfl, hd, ht⟩
  rw [E] at hd ⊢
  exact ⟨rfl, ht.blk h.a (by show ¬ (g = g2); exact h.ne), hd, h.tn.then ht (fun i hi => .inr (by have : i = g2 := hi; rw [this]; exact h.gb)), h.ga, h.gb, h.ne⟩
theorem part_at (n : Int) (z : Nat) : ∃ (x : Int) (p : Nat), (if n < 0 then (0 : Int) else n) = x ∧ (if (z : Int) < x then (z : Int) else x) = (p : Int) ∧ p ≤ z := by
  refine ⟨_, (if (z : Int) < (if n < 0 then (0 : Int) else n) then (z : Int) else (if n < 0 then (0 : Int) else n)).toNat, rfl, ?_, ?_⟩ <;> (repeat' split) <;> omega
attribute [local go_sem] lib_max2 lib_min2 lib_max_two lib_min_two
set_option maxRecDepth 8000 in
set_option maxHeartbeats 4000000 in
theorem parts_any (a : Option Addr) (len cap : Nat) (at_ : Int) (s0 : ByteArray) (cu : Int) (w : World) (ha : OpsIn w a len) (hs0 : s0.size ≤ 140737488351232) : Calls Try.prog 6 #[.slice a len cap, .int .i64 at_, .string s0, .int .i64 cu] w fun e w' => e = .returned (.bool true) ∧ Below w.heap.size w w' := by
  have HOP := Lib.hid ha
  have HLM := Lib.hid ha.1
  clear ha
  have hk1 : ∀ W, (Op.stringOp .add (⟨#[120]⟩ : ByteArray) s0).run Try.prog W = .ok (.string ((⟨#[120]⟩ : ByteArray) ++ s0)) W := fun W => run_string_add_sum W _ _ (by show 1 + s0.size ≤ _; omega)
  have hk2 : ∀ W, (Op.stringOp .add ((⟨#[120]⟩ : ByteArray) ++ s0) (⟨#[121]⟩ : ByteArray)).run Try.prog W = .ok (.string ((⟨#[120]⟩ : ByteArray) ++ s0 ++ (⟨#[121]⟩ : ByteArray))) W := fun W => run_string_add_sum W _ _ (by rw [ByteArray.size_append]; show 1 + s0.size + 1 ≤ _; omega)
  obtain ⟨S, hS, hS2, hS40⟩ : ∃ S, cut ((⟨#[120]⟩ : ByteArray) ++ s0 ++ (⟨#[121]⟩ : ByteArray)) 40 = S ∧ 2 ≤ S.size ∧ S.size ≤ 40 := by
    refine ⟨_, rfl, ?_, cut_size _ _⟩
    have hz : ((⟨#[120]⟩ : ByteArray) ++ s0 ++ (⟨#[121]⟩ : ByteArray)).size = 1 + s0.size + 1 := by rw [ByteArray.size_append, ByteArray.size_append]; rfl
    unfold cut
    split
    · rw [ByteArray.size_extract]; omega
    · omega
  have HSS := Lib.hid hS
  have HS2 := Lib.hid hS2
  have HS40 := Lib.hid hS40
  clear hS hS2 hS40
  go_enter Try.func6, Try.ntmps6
  go_wp2_with (first
    | (go_at_call 7; refine (awake_any _).mono ?_; rintro e w1 ⟨rfl, ht⟩; have HT := Lib.hid ht; clear ht)
    | (go_at_call 19; refine (cut_any _ 40 _).mono ?_; rintro e w1 ⟨rfl, rfl⟩; rw [HSS.out])
    | (go_at_call 8; refine (new_any _).mono ?_; rintro e w2 ⟨g, rfl, hd, hg, ht⟩; have HD := Lib.hid hd; have HG := Lib.hid (Nat.le_trans HT.out.size hg); have HT := Lib.hid (HT.out.trans ht); clear hd hg ht))
  have HDI : Hid (DI w g ⟨#[]⟩ w2) := ⟨HD.out, HT.out⟩
  clear HD HT
  go_loopg [10] 10 (fun gk v5 wr => ∃ (j : Nat) (s : ByteArray), v5 = .int .i64 (j : Int) ∧ Hid (gk + j = 10 ∧ s.size ≤ 200) ∧ DI w g s wr)
  case atStart => exact ⟨0, ⟨#[]⟩, rfl, ⟨rfl, by decide⟩, HDI.out⟩
  case round =>
    obtain ⟨j, s, rfl, hj, hdi⟩ := hrel
    have HS := Lib.hid hdi
    clear hdi
    rename World => wl
    have hj40 : j ≤ 10 := by have := hj.out.1; omega
    have hlm := HLM.out
    have hwj : wrap64 ((j : Int) + 1) = (j : Int) + 1 := IntWalk.wrap64_in _ ⟨by omega, by omega⟩
    by_cases hgo : j < len ∧ j < 10
    · obtain ⟨hlt, h40⟩ := hgo
      have b1 : decide ((j : Int) < (len : Int)) = true := by simp; omega
      have b2 : decide ((j : Int) < (10 : Int)) = true := by simp; omega
      obtain ⟨ad, k, p, S1, n, rfl, _, c0, c1, c2, c3⟩ := (HOP.out.later HS.out.2.nopeBelow).2 j hlt
      go_wp2_with (first
          | (go_at_call 11; refine (few_any k p S1 n _).mono ?_; rintro e w3 ⟨rfl, ht⟩; have HS := Lib.hid (HS.out.nope ht); clear ht)
          | (go_at_call 10; refine (do_any g s k p (cut S1 45) n _ HS.out.1 hj.out.2).mono ?_; rintro e w5 ⟨rfl, hd, ht⟩; have HS5 : Hid (DI w g (dDo s k p (cut S1 45) n).1 w5) := ⟨hd, HS.out.2.then ht (fun i hi => .inr (by have : i = g := hi; rw [this]; exact HG.out))⟩; clear hd ht))
      go_roundg (10 - (j + 1))
      case measure => have := hj.out.1; omega
      case rel => exact ⟨j + 1, (dDo s k p (cut S1 45) n).1, by go_num, ⟨by omega, dDo_size _ _ _ _ _ hj.out.2⟩, HS5.out⟩
    · clear HDI
      by_cases hlt : j < len
      · have b1 : decide ((j : Int) < (len : Int)) = true := by simp; omega
        have b2 : decide ((j : Int) < (10 : Int)) = false := by simp; omega
        have h2 := HS2.out
        have h40 := HS40.out
        obtain ⟨x, p, hx, hp, hpt⟩ := part_at at_ s.size
        obtain ⟨c, hc, hc1, hc2⟩ := cut_at cu S.size h2 h40
        have hsm : wrap64 ((S.size : Int) - 1) = (S.size : Int) - 1 := IntWalk.wrap64_in _ ⟨by omega, by omega⟩
        have hmx : (if (S.size : Int) - 1 < 1 then (1 : Int) else (S.size : Int) - 1) = (S.size : Int) - 1 := by split <;> omega
        have hz0 : ((S.size : Int) - 1 == 0) = false := by simp; omega
        have d2 : decide ((S.size : Int) < 2) = false := by simp; omega
        have hsl := hj.out.2
        have hws : wrap64 ((s.size : Int) + (S.size : Int)) = (s.size : Int) + (S.size : Int) := IntWalk.wrap64_in _ ⟨by omega, by omega⟩
        go_upto_region 14 with (first
          | (go_at_call 17; refine (save_any g s _ HS.out.1 hj.out.2).mono ?_; rintro e w7 ⟨rfl, ht⟩; have HS := Lib.hid (HS.out.nope ht); clear ht)
            | (go_at_call 16; refine (load_any s _ hj.out.2).mono ?_; rintro e w8 ⟨g2, rfl, hd, hg, ht⟩; have HDD : Hid (DD w g g2 s s w8) := ⟨(HS.out.nope ht).1, hd, HS.out.2.trans ht, HG.out, Nat.le_trans HS.out.2.size hg, by have := blk_lt HS.out.1; omega⟩; clear hd hg ht)
            | (go_at_call 9; first | (refine (text_any g _ _ HDD.out.a).mono ?_; rintro e w9 ⟨rfl, hw⟩; have HDD := Lib.hid (show DD w g g2 _ _ w9 from hw ▸ HDD.out); clear hw) | (refine (text_any g2 _ _ HDD.out.b).mono ?_; rintro e w9 ⟨rfl, hw⟩; have HDD := Lib.hid (show DD w g g2 _ _ w9 from hw ▸ HDD.out); clear hw)))
        rw [hc]
        clear hc hx hp hmx hsm hz0 HOP HLM hk1 hk2 HSS hlm hgo
        by_cases hbig : 200 < s.size + S.size
        · have d3 : decide (200 < (s.size : Int) + (S.size : Int)) = true := by simp; omega
          go_wp2_with (first
            | (go_at_call 17; refine (save_any g s _ HS.out.1 hj.out.2).mono ?_; rintro e w7 ⟨rfl, ht⟩; have HS := Lib.hid (HS.out.nope ht); clear ht)
            | (go_at_call 16; refine (load_any s _ hj.out.2).mono ?_; rintro e w8 ⟨g2, rfl, hd, hg, ht⟩; have HDD : Hid (DD w g g2 s s w8) := ⟨(HS.out.nope ht).1, hd, HS.out.2.trans ht, HG.out, Nat.le_trans HS.out.2.size hg, by have := blk_lt HS.out.1; omega⟩; clear hd hg ht)
            | (go_at_call 9; first | (refine (text_any g _ _ HDD.out.a).mono ?_; rintro e w9 ⟨rfl, hw⟩; have HDD := Lib.hid (show DD w g g2 _ _ w9 from hw ▸ HDD.out); clear hw) | (refine (text_any g2 _ _ HDD.out.b).mono ?_; rintro e w9 ⟨rfl, hw⟩; have HDD := Lib.hid (show DD w g g2 _ _ w9 from hw ▸ HDD.out); clear hw)))
          go_ret
          exact ⟨rfl, HDD.out.tn.nopeBelow⟩
        · have d3 : decide (200 < (s.size : Int) + (S.size : Int)) = false := by simp; omega
          obtain ⟨A, B, D, e1, e2, e3, e4, e5, e6, zA, zB, zD, hcat⟩ := all_parts s S p c hpt hc1 hc2 h40 (by omega)
          have E1 := Lib.hid e1
          have E2 := Lib.hid e2
          have E3 := Lib.hid e3
          have E4 := Lib.hid e4
          have E5 := Lib.hid e5
          have E6 := Lib.hid e6
          have SZ : Hid (s.size ≤ 200 ∧ A.size ≤ 200 ∧ B.size ≤ 200 ∧ D.size ≤ 200) := ⟨hj.out.2, zA, zB, zD⟩
          have hwc : wrap64 ((p : Int) + (c : Int)) = (p : Int) + (c : Int) := IntWalk.wrap64_in _ ⟨by omega, by omega⟩
          have hwd : wrap64 ((S.size : Int) - (c : Int)) = (S.size : Int) - (c : Int) := IntWalk.wrap64_in _ ⟨by omega, by omega⟩
          have hk3 : ∀ W, (Op.stringOp .add (S.extract 0 c) (S.extract c S.size)).run Try.prog W = .ok (.string S) W := fun W => by
            have := run_string_add_sum (P := Try.prog) W (S.extract 0 c) (S.extract c S.size) (by simp; omega)
            rw [hcat] at this
            exact this
          have l0 : (0 : Int) ≤ (c : Int) := by omega
          have l1 : (c : Int) ≤ (S.size : Int) := by omega
          have m1 : (A.toList != A.toList) = false := by simp
          have m2 : (S.toList == S.toList) = true := by simp
          have m3 : (s.toList == s.toList) = true := by simp
          clear e1 e2 e3 e4 e5 e6 zA zB zD hcat hbig hsl h2 h40 hpt hc1 hc2
          go_upto_region 17 with (first
            | (go_at_call 17; refine (save_any g s _ HS.out.1 hj.out.2).mono ?_; rintro e w7 ⟨rfl, ht⟩; have HS := Lib.hid (HS.out.nope ht); clear ht)
            | (go_at_call 16; refine (load_any s _ hj.out.2).mono ?_; rintro e w8 ⟨g2, rfl, hd, hg, ht⟩; have HDD : Hid (DD w g g2 s s w8) := ⟨(HS.out.nope ht).1, hd, HS.out.2.trans ht, HG.out, Nat.le_trans HS.out.2.size hg, by have := blk_lt HS.out.1; omega⟩; clear hd hg ht)
            | (go_at_call 9; first | (refine (text_any g _ _ HDD.out.a).mono ?_; rintro e w9 ⟨rfl, hw⟩; have HDD := Lib.hid (show DD w g g2 _ _ w9 from hw ▸ HDD.out); clear hw) | (refine (text_any g2 _ _ HDD.out.b).mono ?_; rintro e w9 ⟨rfl, hw⟩; have HDD := Lib.hid (show DD w g g2 _ _ w9 from hw ▸ HDD.out); clear hw))
            | (go_at_call 10; (refine (HDD.out.do1 1 (p : Int) S 0 _ _ _ E1.out SZ.out.1).mono ?_; rintro e w10 ⟨rfl, hdd⟩; have HDD := Lib.hid hdd; clear hdd)))
          go_upto_region 18 with (go_at_call 10; (refine (HDD.out.do2 1 (p : Int) (S.extract 0 c) 0 _ _ _ E2.out SZ.out.1).mono ?_; rintro e w10 ⟨rfl, hdd⟩; have HDD := Lib.hid hdd; clear hdd))
          go_upto_region 19 with (go_at_call 10; (refine (HDD.out.do2 1 ((p : Int) + (c : Int)) (S.extract c S.size) 0 _ _ _ E3.out SZ.out.2.2.1).mono ?_; rintro e w10 ⟨rfl, hdd⟩; have HDD := Lib.hid hdd; clear hdd))
          clear d3
          go_upto_region 22 with (first
            | (go_at_call 17; refine (save_any g s _ HS.out.1 hj.out.2).mono ?_; rintro e w7 ⟨rfl, ht⟩; have HS := Lib.hid (HS.out.nope ht); clear ht)
            | (go_at_call 16; refine (load_any s _ hj.out.2).mono ?_; rintro e w8 ⟨g2, rfl, hd, hg, ht⟩; have HDD : Hid (DD w g g2 s s w8) := ⟨(HS.out.nope ht).1, hd, HS.out.2.trans ht, HG.out, Nat.le_trans HS.out.2.size hg, by have := blk_lt HS.out.1; omega⟩; clear hd hg ht)
            | (go_at_call 9; first | (refine (text_any g _ _ HDD.out.a).mono ?_; rintro e w9 ⟨rfl, hw⟩; have HDD := Lib.hid (show DD w g g2 _ _ w9 from hw ▸ HDD.out); clear hw) | (refine (text_any g2 _ _ HDD.out.b).mono ?_; rintro e w9 ⟨rfl, hw⟩; have HDD := Lib.hid (show DD w g g2 _ _ w9 from hw ▸ HDD.out); clear hw))
            | (go_at_call 10; (refine (HDD.out.do1 2 (p : Int) ⟨#[]⟩ (S.size : Int) _ _ _ E4.out SZ.out.2.1).mono ?_; rintro e w10 ⟨rfl, hdd⟩; have HDD := Lib.hid hdd; clear hdd)))
          go_upto_region 23 with (go_at_call 10; (refine (HDD.out.do2 2 (p : Int) ⟨#[]⟩ (c : Int) _ _ _ E5.out SZ.out.2.1).mono ?_; rintro e w10 ⟨rfl, hdd⟩; have HDD := Lib.hid hdd; clear hdd))
          go_upto_region 24 with (go_at_call 10; (refine (HDD.out.do2 2 (p : Int) ⟨#[]⟩ ((S.size : Int) - (c : Int)) _ _ _ E6.out SZ.out.2.2.2).mono ?_; rintro e w10 ⟨rfl, hdd⟩; have HDD := Lib.hid hdd; clear hdd))
          go_wp2_with (first
            | (go_at_call 17; refine (save_any g s _ HS.out.1 hj.out.2).mono ?_; rintro e w7 ⟨rfl, ht⟩; have HS := Lib.hid (HS.out.nope ht); clear ht)
            | (go_at_call 16; refine (load_any s _ hj.out.2).mono ?_; rintro e w8 ⟨g2, rfl, hd, hg, ht⟩; have HDD : Hid (DD w g g2 s s w8) := ⟨(HS.out.nope ht).1, hd, HS.out.2.trans ht, HG.out, Nat.le_trans HS.out.2.size hg, by have := blk_lt HS.out.1; omega⟩; clear hd hg ht)
            | (go_at_call 9; first | (refine (text_any g _ _ HDD.out.a).mono ?_; rintro e w9 ⟨rfl, hw⟩; have HDD := Lib.hid (show DD w g g2 _ _ w9 from hw ▸ HDD.out); clear hw) | (refine (text_any g2 _ _ HDD.out.b).mono ?_; rintro e w9 ⟨rfl, hw⟩; have HDD := Lib.hid (show DD w g g2 _ _ w9 from hw ▸ HDD.out); clear hw)))
          go_ret
          exact ⟨rfl, HDD.out.tn.nopeBelow⟩
      · have b1 : decide ((j : Int) < (len : Int)) = false := by simp; omega
        have h2 := HS2.out
        have h40 := HS40.out
        obtain ⟨x, p, hx, hp, hpt⟩ := part_at at_ s.size
        obtain ⟨c, hc, hc1, hc2⟩ := cut_at cu S.size h2 h40
        have hsm : wrap64 ((S.size : Int) - 1) = (S.size : Int) - 1 := IntWalk.wrap64_in _ ⟨by omega, by omega⟩
        have hmx : (if (S.size : Int) - 1 < 1 then (1 : Int) else (S.size : Int) - 1) = (S.size : Int) - 1 := by split <;> omega
        have hz0 : ((S.size : Int) - 1 == 0) = false := by simp; omega
        have d2 : decide ((S.size : Int) < 2) = false := by simp; omega
        have hsl := hj.out.2
        have hws : wrap64 ((s.size : Int) + (S.size : Int)) = (s.size : Int) + (S.size : Int) := IntWalk.wrap64_in _ ⟨by omega, by omega⟩
        go_upto_region 14 with (first
          | (go_at_call 17; refine (save_any g s _ HS.out.1 hj.out.2).mono ?_; rintro e w7 ⟨rfl, ht⟩; have HS := Lib.hid (HS.out.nope ht); clear ht)
            | (go_at_call 16; refine (load_any s _ hj.out.2).mono ?_; rintro e w8 ⟨g2, rfl, hd, hg, ht⟩; have HDD : Hid (DD w g g2 s s w8) := ⟨(HS.out.nope ht).1, hd, HS.out.2.trans ht, HG.out, Nat.le_trans HS.out.2.size hg, by have := blk_lt HS.out.1; omega⟩; clear hd hg ht)
            | (go_at_call 9; first | (refine (text_any g _ _ HDD.out.a).mono ?_; rintro e w9 ⟨rfl, hw⟩; have HDD := Lib.hid (show DD w g g2 _ _ w9 from hw ▸ HDD.out); clear hw) | (refine (text_any g2 _ _ HDD.out.b).mono ?_; rintro e w9 ⟨rfl, hw⟩; have HDD := Lib.hid (show DD w g g2 _ _ w9 from hw ▸ HDD.out); clear hw)))
        rw [hc]
        clear hc hx hp hmx hsm hz0 HOP HLM hk1 hk2 HSS hlm hgo
        by_cases hbig : 200 < s.size + S.size
        · have d3 : decide (200 < (s.size : Int) + (S.size : Int)) = true := by simp; omega
          go_wp2_with (first
            | (go_at_call 17; refine (save_any g s _ HS.out.1 hj.out.2).mono ?_; rintro e w7 ⟨rfl, ht⟩; have HS := Lib.hid (HS.out.nope ht); clear ht)
            | (go_at_call 16; refine (load_any s _ hj.out.2).mono ?_; rintro e w8 ⟨g2, rfl, hd, hg, ht⟩; have HDD : Hid (DD w g g2 s s w8) := ⟨(HS.out.nope ht).1, hd, HS.out.2.trans ht, HG.out, Nat.le_trans HS.out.2.size hg, by have := blk_lt HS.out.1; omega⟩; clear hd hg ht)
            | (go_at_call 9; first | (refine (text_any g _ _ HDD.out.a).mono ?_; rintro e w9 ⟨rfl, hw⟩; have HDD := Lib.hid (show DD w g g2 _ _ w9 from hw ▸ HDD.out); clear hw) | (refine (text_any g2 _ _ HDD.out.b).mono ?_; rintro e w9 ⟨rfl, hw⟩; have HDD := Lib.hid (show DD w g g2 _ _ w9 from hw ▸ HDD.out); clear hw)))
          go_ret
          exact ⟨rfl, HDD.out.tn.nopeBelow⟩
        · have d3 : decide (200 < (s.size : Int) + (S.size : Int)) = false := by simp; omega
          obtain ⟨A, B, D, e1, e2, e3, e4, e5, e6, zA, zB, zD, hcat⟩ := all_parts s S p c hpt hc1 hc2 h40 (by omega)
          have E1 := Lib.hid e1
          have E2 := Lib.hid e2
          have E3 := Lib.hid e3
          have E4 := Lib.hid e4
          have E5 := Lib.hid e5
          have E6 := Lib.hid e6
          have SZ : Hid (s.size ≤ 200 ∧ A.size ≤ 200 ∧ B.size ≤ 200 ∧ D.size ≤ 200) := ⟨hj.out.2, zA, zB, zD⟩
          have hwc : wrap64 ((p : Int) + (c : Int)) = (p : Int) + (c : Int) := IntWalk.wrap64_in _ ⟨by omega, by omega⟩
          have hwd : wrap64 ((S.size : Int) - (c : Int)) = (S.size : Int) - (c : Int) := IntWalk.wrap64_in _ ⟨by omega, by omega⟩
          have hk3 : ∀ W, (Op.stringOp .add (S.extract 0 c) (S.extract c S.size)).run Try.prog W = .ok (.string S) W := fun W => by
            have := run_string_add_sum (P := Try.prog) W (S.extract 0 c) (S.extract c S.size) (by simp; omega)
            rw [hcat] at this
            exact this
          have l0 : (0 : Int) ≤ (c : Int) := by omega
          have l1 : (c : Int) ≤ (S.size : Int) := by omega
          have m1 : (A.toList != A.toList) = false := by simp
          have m2 : (S.toList == S.toList) = true := by simp
          have m3 : (s.toList == s.toList) = true := by simp
          clear e1 e2 e3 e4 e5 e6 zA zB zD hcat hbig hsl h2 h40 hpt hc1 hc2
          go_upto_region 17 with (first
            | (go_at_call 17; refine (save_any g s _ HS.out.1 hj.out.2).mono ?_; rintro e w7 ⟨rfl, ht⟩; have HS := Lib.hid (HS.out.nope ht); clear ht)
            | (go_at_call 16; refine (load_any s _ hj.out.2).mono ?_; rintro e w8 ⟨g2, rfl, hd, hg, ht⟩; have HDD : Hid (DD w g g2 s s w8) := ⟨(HS.out.nope ht).1, hd, HS.out.2.trans ht, HG.out, Nat.le_trans HS.out.2.size hg, by have := blk_lt HS.out.1; omega⟩; clear hd hg ht)
            | (go_at_call 9; first | (refine (text_any g _ _ HDD.out.a).mono ?_; rintro e w9 ⟨rfl, hw⟩; have HDD := Lib.hid (show DD w g g2 _ _ w9 from hw ▸ HDD.out); clear hw) | (refine (text_any g2 _ _ HDD.out.b).mono ?_; rintro e w9 ⟨rfl, hw⟩; have HDD := Lib.hid (show DD w g g2 _ _ w9 from hw ▸ HDD.out); clear hw))
            | (go_at_call 10; (refine (HDD.out.do1 1 (p : Int) S 0 _ _ _ E1.out SZ.out.1).mono ?_; rintro e w10 ⟨rfl, hdd⟩; have HDD := Lib.hid hdd; clear hdd)))
          go_upto_region 18 with (go_at_call 10; (refine (HDD.out.do2 1 (p : Int) (S.extract 0 c) 0 _ _ _ E2.out SZ.out.1).mono ?_; rintro e w10 ⟨rfl, hdd⟩; have HDD := Lib.hid hdd; clear hdd))
          go_upto_region 19 with (go_at_call 10; (refine (HDD.out.do2 1 ((p : Int) + (c : Int)) (S.extract c S.size) 0 _ _ _ E3.out SZ.out.2.2.1).mono ?_; rintro e w10 ⟨rfl, hdd⟩; have HDD := Lib.hid hdd; clear hdd))
          clear d3
          go_upto_region 22 with (first
            | (go_at_call 17; refine (save_any g s _ HS.out.1 hj.out.2).mono ?_; rintro e w7 ⟨rfl, ht⟩; have HS := Lib.hid (HS.out.nope ht); clear ht)
            | (go_at_call 16; refine (load_any s _ hj.out.2).mono ?_; rintro e w8 ⟨g2, rfl, hd, hg, ht⟩; have HDD : Hid (DD w g g2 s s w8) := ⟨(HS.out.nope ht).1, hd, HS.out.2.trans ht, HG.out, Nat.le_trans HS.out.2.size hg, by have := blk_lt HS.out.1; omega⟩; clear hd hg ht)
            | (go_at_call 9; first | (refine (text_any g _ _ HDD.out.a).mono ?_; rintro e w9 ⟨rfl, hw⟩; have HDD := Lib.hid (show DD w g g2 _ _ w9 from hw ▸ HDD.out); clear hw) | (refine (text_any g2 _ _ HDD.out.b).mono ?_; rintro e w9 ⟨rfl, hw⟩; have HDD := Lib.hid (show DD w g g2 _ _ w9 from hw ▸ HDD.out); clear hw))
            | (go_at_call 10; (refine (HDD.out.do1 2 (p : Int) ⟨#[]⟩ (S.size : Int) _ _ _ E4.out SZ.out.2.1).mono ?_; rintro e w10 ⟨rfl, hdd⟩; have HDD := Lib.hid hdd; clear hdd)))
          go_upto_region 23 with (go_at_call 10; (refine (HDD.out.do2 2 (p : Int) ⟨#[]⟩ (c : Int) _ _ _ E5.out SZ.out.2.1).mono ?_; rintro e w10 ⟨rfl, hdd⟩; have HDD := Lib.hid hdd; clear hdd))
          go_upto_region 24 with (go_at_call 10; (refine (HDD.out.do2 2 (p : Int) ⟨#[]⟩ ((S.size : Int) - (c : Int)) _ _ _ E6.out SZ.out.2.2.2).mono ?_; rintro e w10 ⟨rfl, hdd⟩; have HDD := Lib.hid hdd; clear hdd))
          go_wp2_with (first
            | (go_at_call 17; refine (save_any g s _ HS.out.1 hj.out.2).mono ?_; rintro e w7 ⟨rfl, ht⟩; have HS := Lib.hid (HS.out.nope ht); clear ht)
            | (go_at_call 16; refine (load_any s _ hj.out.2).mono ?_; rintro e w8 ⟨g2, rfl, hd, hg, ht⟩; have HDD : Hid (DD w g g2 s s w8) := ⟨(HS.out.nope ht).1, hd, HS.out.2.trans ht, HG.out, Nat.le_trans HS.out.2.size hg, by have := blk_lt HS.out.1; omega⟩; clear hd hg ht)
            | (go_at_call 9; first | (refine (text_any g _ _ HDD.out.a).mono ?_; rintro e w9 ⟨rfl, hw⟩; have HDD := Lib.hid (show DD w g g2 _ _ w9 from hw ▸ HDD.out); clear hw) | (refine (text_any g2 _ _ HDD.out.b).mono ?_; rintro e w9 ⟨rfl, hw⟩; have HDD := Lib.hid (show DD w g g2 _ _ w9 from hw ▸ HDD.out); clear hw)))
          go_ret
          exact ⟨rfl, HDD.out.tn.nopeBelow⟩
theorem parts_walk (a : Option Addr) (len cap : Nat) (at_ : Int) (s0 : ByteArray) (cu : Int) (w : World) (ha : OpsIn w a len) (hs0 : s0.size ≤ 140737488351232) : Calls Try.prog 6 #[.slice a len cap, .int .i64 at_, .string s0, .int .i64 cu] w fun e w' => e = .returned (.bool true) ∧ Below w.heap.size w w' := parts_any a len cap at_ s0 cu w ha hs0
end Go.Proofs.Ytbcdjdbdjcflgaa
