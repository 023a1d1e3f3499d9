import Derived.Test.YtpcfgigmchndjaaAct
import Derived.Maps.RangeWalk
import Derived.Deep.RegionHeld3
namespace Go.Proofs.Ytpcfgigmchndjaa
open Go.RowKit Go.Maps
def CntIs (w : World) (mb : Nat) (log : List Dn) : Prop := ∃ D, w.ownsMap Try.prog 3 (plainElem (H := Unit) Try.prog 3) mb log.length D ∧ ∀ x, (Lit.int .i64 x).wf = true → D.atKey (.int .i64 x) (.lit (.int .i64 0)) = .lit (.int .i64 (cntOf log x))
/-- A Memory and, beside it, a map that counts. -/
structure MemC (w0 : World) (g : Nat) (n : Nat) (log lm : List Dn) (mb : Nat) (w : World) : Prop where
  mem : ∃ F cs, MemIs w w0.heap.size F g cs log ∧ cs.length = n ∧ ¬ F mb
  cnt : CntIs w mb lm
  turn : Turn Nope w0 w
  lo : w0.heap.size ≤ mb
variable {w0 w w' : World} {g mb n : Nat} {log lm : List Dn}
theorem CntIs.turn (h : CntIs w mb log) {S : Nat → Prop} (ht : Turn S w w') (hS : ¬ S mb) : CntIs w' mb log := by
  obtain ⟨D, h1, h2⟩ := h
  exact ⟨D, map_turn h1 ht hS, h2⟩
theorem CntIs.lt (h : CntIs w mb log) : mb < w.heap.size := by
  obtain ⟨D, h1, h2⟩ := h
  exact h1.lt
theorem MemC.nope (h : MemC w0 g n log lm mb w) (ht : Turn Nope w w') : MemC w0 g n log lm mb w' := by
  obtain ⟨F, cs, h1, h2, h3⟩ := h.mem
  exact ⟨⟨F, cs, h1.nope ht, h2, h3⟩, h.cnt.turn ht id, h.turn.trans ht, h.lo⟩
theorem memc_do (w : World) (hm : MemC w0 g n log lm mb w) (hl : log.length ≤ 1000) (who k : Int) (hk : k = 1 ∨ k = 2 ∨ k = 3) (hw : (Lit.int .i64 who).wf = true) (j : Nat) (hj : j < n) (old nw : ByteArray) :
    Calls Try.prog 10 #[.pointer (some ⟨g, 0, none⟩), .int .i64 who, accV k (j : Int) old nw] w fun e w' => ∃ s is, e = .returned (.tuple #[.string s, .bool is, .int .i64 0]) ∧ MemC w0 g n (log ++ [⟨who, k, j, old, nw, is⟩]) lm mb w' := by
  obtain ⟨F, cs, h1, h2, h3⟩ := hm.mem
  refine (do_ok w h1 hl who k hk hw j (cs[j]'(by omega)) (by rw [List.getElem?_eq_getElem]) old nw).mono ?_
  rintro e w' ⟨rfl, ⟨F', hF, hF'⟩, ht⟩
  have hlt := hm.cnt.lt
  refine ⟨_, _, rfl, ⟨F', _, hF, by rw [doCs_length]; exact h2, fun e => ?_⟩, hm.cnt.turn ht h3, hm.turn.then ht (fun k hk => .inr (h1.lo k hk)), hm.lo⟩
  rcases hF' _ e with h | h
  · exact h3 h
  · omega
theorem memc_out (w : World) (hm : MemC w0 g n log lm mb w) (who k : Int) (c : Int) (hc : c < 0 ∨ (n : Int) ≤ c) (old nw : ByteArray) :
    Calls Try.prog 10 #[.pointer (some ⟨g, 0, none⟩), .int .i64 who, accV k c old nw] w fun e w' => e = .returned (.tuple #[.string ⟨#[]⟩, .bool false, .int .i64 6]) ∧ MemC w0 g n log lm mb w' := by
  obtain ⟨F, cs, h1, h2, h3⟩ := hm.mem
  refine (do_out w h1 who k c old nw (by rw [h2]; exact hc)).mono ?_
  rintro e w' ⟨rfl, ht⟩
  exact ⟨rfl, hm.nope ht⟩
theorem memc_count {d : Dn} {D : DataW Unit} (h : MemC w0 g n log lm mb w) (hf : ∀ x, (Lit.int .i64 x).wf = true → D.atKey (.int .i64 x) (.lit (.int .i64 0)) = .lit (.int .i64 (cntOf lm x))) (hD : w.ownsMap Try.prog 3 (plainElem (H := Unit) Try.prog 3) mb lm.length D)
    (ho : w'.ownsMap Try.prog 3 (plainElem (H := Unit) Try.prog 3) mb (lm.length + 1) (D.put (.int .i64 d.who) (.lit (.int .i64 (cntOf lm d.who + 1))))) (hg : w.grownBy w' (some mb)) : MemC w0 g n log (lm ++ [d]) mb w' := by
  obtain ⟨F, cs, h1, h2, h3⟩ := h.mem
  have ht : Turn (At mb) w w' := (Turn.refl _ _).grown hg (fun k hk => .inl (by injection hk with hk; exact hk.symm))
  refine ⟨⟨F, cs, h1.turn ht (fun k hk hF => h3 (by rw [show mb = k from hk.symm]; exact hF)), h2, h3⟩, ⟨_, by simpa using ho, ?_⟩, h.turn.then ht (fun k hk => .inr (by rw [show k = mb from hk]; exact h.lo)), h.lo⟩
  intro x hx
  rw [cnt_snoc]
  by_cases hxw : x = d.who
  · subst hxw
    rw [if_pos rfl]
    exact atKey_put_same hD.isMap (show WideAt.IsKeyLit (.int .i64 d.who) from trivial) _ _
  · rw [if_neg hxw]
    rw [atKey_put_other (by simpa using hxw)]
    exact hf x hx
theorem memc_all (w : World) (hm : MemC w0 g n log lm mb w) : Calls Try.prog 12 #[.pointer (some ⟨g, 0, none⟩)] w fun e w' => e = .returned (.int .i64 log.length) ∧ w' = w := by
  obtain ⟨F, cs, h1, h2, h3⟩ := hm.mem
  exact all_any w h1
theorem memc_len (w : World) (hm : MemC w0 g n log lm mb w) : Calls Try.prog 13 #[.pointer (some ⟨g, 0, none⟩)] w fun e w' => e = .returned (.int .i64 n) ∧ w' = w := by
  obtain ⟨F, cs, h1, h2, h3⟩ := hm.mem
  rw [← h2]
  exact len_any w h1
theorem memc_who (w : World) (hm : MemC w0 g n log lm mb w) (x : Int) (hx : (Lit.int .i64 x).wf = true) : Calls Try.prog 11 #[.pointer (some ⟨g, 0, none⟩), .int .i64 x] w fun e w' => e = .returned (.int .i64 (cntOf log x)) ∧ w' = w := by
  obtain ⟨F, cs, h1, h2, h3⟩ := hm.mem
  exact count_any w h1 x hx
attribute [local go_sem] lib_max2 lib_min2 lib_max_two lib_min_two
set_option maxRecDepth 8000 in
set_option maxHeartbeats 4000000 in
theorem count_walk (a : Option Addr) (len cap : Nat) (n0 : Int) (w : World) (hin : IntsIn w a len) :
    Calls Try.prog 3 #[.slice a len cap, .int .i64 n0] w fun e w' => e = .returned (.bool true) ∧ Below w.heap.size w w' := by
  have HIN := Lib.hid hin
  clear hin
  obtain ⟨n, hn1, hn9, hmax⟩ : ∃ n : Nat, 1 ≤ n ∧ n ≤ 9 ∧ (if 9 < (if n0 < 1 then 1 else n0) then 9 else (if n0 < 1 then 1 else n0)) = (n : Int) := by
    refine ⟨(if 9 < (if n0 < 1 then 1 else n0) then 9 else (if n0 < 1 then 1 else n0)).toNat, ?_, ?_, ?_⟩ <;> (repeat' split) <;> omega
  obtain ⟨n1, hmax1⟩ : ∃ n1, (if n0 < 1 then 1 else n0) = n1 := ⟨_, rfl⟩
  rw [hmax1] at hmax
  have hmp := make_map
  go_enter Try.func3, Try.ntmps3
  go_wp2_with fail
  refine (awake_any _).mono ?_
  rintro e w1 ⟨rfl, ht⟩
  have HT1 := Lib.hid ht
  clear ht
  go_wp2_with fail
  refine (new_any n (by omega) _).mono ?_
  rintro e w2 ⟨g, rfl, hm, ht⟩
  have HM2 := Lib.hid (Mem.of_new HT1.out hm ht)
  clear hm ht
  go_wp2_with fail
  have HX2 : Hid (MemC w g n [] [] w2.heap.size (w2.alloc (.map #[] 0))) := by
    obtain ⟨⟨F, h1⟩, h2⟩ := HM2.out
    exact ⟨⟨F, _, h1.nope ((Turn.refl _ _).alloc _), List.length_replicate, fun h => Nat.lt_irrefl _ (h1.lt _ h)⟩, ⟨.map [], World.ownsMap_made _ _ _ _, fun x _ => rfl⟩, h2.alloc _, h2.size⟩
  clear HM2
  generalize w2.heap.size = mb at *
  go_loopg [7, 8] 50 (fun k v7 v8 wr => ∃ (i : Nat) (log : List Dn), v7 = .int .i64 (log.length : Int) ∧ v8 = .int .i64 (i : Int) ∧ Hid (k + i = 50 ∧ i ≤ len ∧ log.length ≤ i) ∧ MemC w g n log log mb wr)
  case atStart => exact ⟨0, [], rfl, rfl, ⟨rfl, Nat.zero_le _, Nat.le_refl _⟩, HX2.out⟩
  case round =>
    obtain ⟨i, log, rfl, rfl, hi, hm⟩ := hrel
    have HM3 := Lib.hid hm
    clear hm HX2
    have hll : log.length ≤ 1000 := by have := hi.out.1; have := hi.out.2.2; omega
    have HL := Lib.hid hll
    clear hll
    by_cases hlt : i < len ∧ i < 50
    · have b1 : decide ((i : Int) < (len : Int)) = true := by simp; omega
      have b1n : decide (i < len) = true := by simp; omega
      have b2 : decide ((i : Int) < (50 : Int)) = true := by simp; omega
      have b2n : decide (i < 50) = true := by simp; omega
      have hi1 := hlt.1
      have hi2 := hlt.2
      have hw : wrap64 ((i : Int) + 1) = (i : Int) + 1 := IntWalk.wrap64_in _ ⟨by omega, by omega⟩
      obtain ⟨N1, hN1⟩ : ∃ N1 : Nat, n + 1 = N1 := ⟨_, rfl⟩
      have hw2 : wrap64 ((n : Int) + 1) = (N1 : Int) := by rw [← hN1]; exact IntWalk.wrap64_in _ ⟨by omega, by omega⟩
      have hw2' : IntKind.i64.wrap ((n : Int) + 1) = (N1 : Int) := IntWalk.i64_in _ ⟨by omega, by omega⟩ |>.trans (by omega)
      have hnz1 : ¬ (N1 : Int) = 0 := by omega
      have hnz2 : ¬ N1 = 0 := by omega
      obtain ⟨j, hj⟩ : ∃ j, i % N1 = j := ⟨_, rfl⟩
      have hjl : j < N1 := by rw [← hj]; exact Nat.mod_lt _ (by omega)
      have htj : Int.tmod (i : Int) (N1 : Int) = (j : Int) := by rw [← hj]; rfl
      obtain ⟨kk, hk3⟩ : ∃ kk : Int, 1 + ((i % 3 : Nat) : Int) = kk := ⟨_, rfl⟩
      have htk : Int.tmod (i : Int) 3 = kk - 1 := by rw [← hk3]; have : Int.tmod (i : Int) 3 = ((i % 3 : Nat) : Int) := rfl; omega
      have hwk : wrap64 (1 + (kk - 1)) = kk := by rw [show 1 + (kk - 1) = kk by omega]; exact IntWalk.wrap64_in _ ⟨by omega, by omega⟩
      have hwk' : IntKind.i64.wrap (1 + (kk - 1)) = kk := (by rw [show 1 + (kk - 1) = kk by omega]; exact IntWalk.i64_in _ ⟨by omega, by omega⟩)
      have hkk : kk = 1 ∨ kk = 2 ∨ kk = 3 := by omega
      have HK := Lib.hid hkk
      have HN1 := Lib.hid hN1
      clear hN1 hj hk3 hkk
      obtain ⟨ad, x, rfl, hx, c0⟩ := HIN.out.2 i hi1
      have HC0 := Lib.hid c0
      clear hlt c0
      have CELL : Hid (∀ W, Turn Nope w W → W.cell? (ad.add i) = some (.int .i64 x)) := fun W R => cell_later R.nopeBelow HC0.out
      have hw3 : wrap64 ((log.length : Int) + 1) = (log.length : Int) + 1 := IntWalk.wrap64_in _ ⟨by omega, by have := HL.out; omega⟩
      have hw3' : IntKind.i64.wrap ((log.length : Int) + 1) = (log.length : Int) + 1 := IntWalk.i64_in _ ⟨by omega, by have := HL.out; omega⟩
      by_cases hjn : j < n
      · have d1 : decide ((j : Int) < (n : Int)) = true := by simp; omega
        have d1n : decide (j < n) = true := by simp; omega
        go_wp2_with fail
        go_region_held3 (fun W => W.cell? (ad.add i) = some (.int .i64 x)) (first | exact CELL.out _ HM3.out.turn | exact CELL.out _ (HM3.out.turn.trans (Turn.refl _ _).drew) | exact CELL.out _ HM5.out.turn)
          (first | (go_at_call 10; refine (memc_do _ (HM3.out.nope (Turn.refl _ _).drew) HL.out x kk HK.out hx j hjn _ _).mono ?_; rintro e w' ⟨s, is, rfl, hm⟩; have HM5 := Lib.hid hm; clear hm))
        have c1 := CELL.out _ HM5.out.turn
        have HO := Lib.hid HM5.out.cnt
        obtain ⟨D, hown, hf⟩ := HO.out
        have HOW := Lib.hid hown
        have HF := Lib.hid hf
        have HFX := Lib.hid (hf x hx)
        have hkey := keyOf_int_mk Try.underlying3 hx
        clear hown hf HO
        go_wp2_with (first | (at_lookup; refine wpList_lookup_own_int _ rfl _ _ 26 rfl 3 3 .i64 law3 Try.underlying26 Try.underlying3 (zero3 _) mb _ D rfl HOW.out _ _ rfl hkey ?_; intro cc hat hwc; have hcc : cntOf log x = cc := (by rw [HFX.out] at hat; simpa using hat); clear hat; subst hcc; clear hwc) | (at_mapUpdate; refine wpList_mapUpdate_own _ rfl _ _ _ 26 rfl 3 3 law3 Try.underlying26 _ mb log.length D rfl HOW.out (log_lt HL.out) _ _ (.int .i64 x) rfl rfl hkey (.lit (.int .i64 (cntOf log x + 1))) [] (by rw [cnt_wrap HL.out]; exact plainElem_int Try.underlying3 (cnt_wf HL.out)) ?_; intro w5 hown1 hgrow1; have HG1 := Lib.hid hgrow1; have HW1 := Lib.hid hown1; clear hgrow1 hown1))
        have HM6 := Lib.hid (memc_count (d := ⟨x, kk, j, ⟨#[]⟩, ⟨#[]⟩, is⟩) HM5.out HF.out HOW.out HW1.out HG1.out)
        go_roundg (49 - i)
        case measure => have := hi.out.1; omega
        case rel => exact ⟨i + 1, _, by simp, by go_num, ⟨by omega, by omega, by have := hi.out.2.2; simp; omega⟩, HM6.out⟩
      · have d1 : decide ((j : Int) < (n : Int)) = false := by simp; omega
        have d1n : decide (j < n) = false := by simp; omega
        go_wp2_with fail
        go_region_held3 (fun W => W.cell? (ad.add i) = some (.int .i64 x)) (first | exact CELL.out _ HM3.out.turn | exact CELL.out _ (HM3.out.turn.trans (Turn.refl _ _).drew) | exact CELL.out _ HM5.out.turn)
          (first | (go_at_call 10; refine (memc_out _ (HM3.out.nope (Turn.refl _ _).drew) x kk j (.inr (Int.ofNat_le.2 (Nat.le_of_not_lt hjn))) _ _).mono ?_; rintro e w' ⟨rfl, hm⟩; have HM5 := Lib.hid hm; clear hm))
        go_wp2_with fail
        go_roundg (49 - i)
        case measure => have := hi.out.1; omega
        case rel => exact ⟨i + 1, log, rfl, by go_num, ⟨by omega, by omega, by have := hi.out.2.2; omega⟩, HM5.out⟩
    · by_cases h1 : i < len
      · have h30 : i = 50 := by have := hi.out.1; omega
        subst h30
        have b1 : decide ((50 : Int) < (len : Int)) = true := by simp; omega
        have b1n : decide (50 < len) = true := by simp; omega
        clear hlt
        rename World => wq
        have HO := Lib.hid HM3.out.cnt
        obtain ⟨D, hown, hf⟩ := HO.out
        have HOW := Lib.hid hown
        have HF := Lib.hid hf
        clear hown hf HO
        go_wp2_with (first | (at_range; refine wpList_range_own _ rfl _ 26 rfl 3 3 law3 Try.underlying26 _ mb _ D rfl HOW.out ?_; intro w5 hrg hgr hs5; have HR := Lib.hid hrg; have HG := Lib.hid hgr; clear hrg hgr hs5) | fail)
        go_frame
        have HT5 : Hid (Turn Nope wq w5) := (Turn.refl _ _).grown HG.out (fun k hk => by cases hk)
        generalize hrb : wq.heap.size = rb at *
        have HRB : Hid (wq.heap.size ≤ rb) := Nat.le_of_eq hrb
        clear hrb
        go_loopg [] (Maps.size D) (fun k w6 => ∃ left, w6.ranges Try.prog 3 (plainElem (H := Unit) Try.prog 3) mb rb log.length D left k ∧ Turn Nope wq w6)
        case atStart => exact ⟨_, HR.out, HT5.out⟩
        case round =>
          obtain ⟨left, hrg, ht⟩ := hrel
          have HRG := Lib.hid hrg
          have HT6 := Lib.hid ht
          have HM6 := Lib.hid (HM3.out.nope ht)
          clear hrg ht
          go_wp2_with (first | (at_next; refine wpList_next_ranges_ii _ rfl _ rfl 3 3 .i64 .i64 law3 Try.underlying3 Try.underlying3 mb rb _ D _ _ rfl HRG.out ?_ ?_) | fail)
          · intro _ _
            go_wp2_with fail
            refine (memc_all _ HM6.out).mono ?_
            rintro e w' ⟨rfl, rfl⟩
            go_wp2_with fail
            refine (memc_len _ HM6.out).mono ?_
            rintro e w' ⟨rfl, rfl⟩
            go_wp2_with fail
            go_ret
            exact ⟨rfl, HM6.out.turn.nopeBelow⟩
          · intro x c w7 cnt1 hwx hwc hlx hat hrg1 hlt1 hg1 hs1 hen
            have hcc : cntOf log x = c := by
              have h1 := HF.out x hwx
              rw [hat] at h1
              simpa using h1.symm
            subst hcc
            have HT7 : Hid (Turn Nope wq w7) := HT6.out.grown hg1 (fun k hk => .inr (by injection hk with hk; subst hk; exact HRB.out))
            have HM7 := Lib.hid (HM3.out.nope HT7.out)
            have HR7 := Lib.hid hrg1
            have HL1 := Lib.hid hlt1
            clear hat hrg1 hg1 hs1 hlt1 hwc hlx
            go_wp2_with fail
            refine (memc_who _ HM7.out x hwx).mono ?_
            rintro e w' ⟨rfl, rfl⟩
            go_wp2_with fail
            go_roundg cnt1
            case measure => exact HL1.out
            case rel => exact ⟨_, HR7.out, HT7.out⟩
      · have b1 : decide ((i : Int) < (len : Int)) = false := by simp; omega
        have b1n : decide (i < len) = false := by simp; omega
        clear hlt
        rename World => wq
        have HO := Lib.hid HM3.out.cnt
        obtain ⟨D, hown, hf⟩ := HO.out
        have HOW := Lib.hid hown
        have HF := Lib.hid hf
        clear hown hf HO
        go_wp2_with (first | (at_range; refine wpList_range_own _ rfl _ 26 rfl 3 3 law3 Try.underlying26 _ mb _ D rfl HOW.out ?_; intro w5 hrg hgr hs5; have HR := Lib.hid hrg; have HG := Lib.hid hgr; clear hrg hgr hs5) | fail)
        go_frame
        have HT5 : Hid (Turn Nope wq w5) := (Turn.refl _ _).grown HG.out (fun k hk => by cases hk)
        generalize hrb : wq.heap.size = rb at *
        have HRB : Hid (wq.heap.size ≤ rb) := Nat.le_of_eq hrb
        clear hrb
        go_loopg [] (Maps.size D) (fun k w6 => ∃ left, w6.ranges Try.prog 3 (plainElem (H := Unit) Try.prog 3) mb rb log.length D left k ∧ Turn Nope wq w6)
        case atStart => exact ⟨_, HR.out, HT5.out⟩
        case round =>
          obtain ⟨left, hrg, ht⟩ := hrel
          have HRG := Lib.hid hrg
          have HT6 := Lib.hid ht
          have HM6 := Lib.hid (HM3.out.nope ht)
          clear hrg ht
          go_wp2_with (first | (at_next; refine wpList_next_ranges_ii _ rfl _ rfl 3 3 .i64 .i64 law3 Try.underlying3 Try.underlying3 mb rb _ D _ _ rfl HRG.out ?_ ?_) | fail)
          · intro _ _
            go_wp2_with fail
            refine (memc_all _ HM6.out).mono ?_
            rintro e w' ⟨rfl, rfl⟩
            go_wp2_with fail
            refine (memc_len _ HM6.out).mono ?_
            rintro e w' ⟨rfl, rfl⟩
            go_wp2_with fail
            go_ret
            exact ⟨rfl, HM6.out.turn.nopeBelow⟩
          · intro x c w7 cnt1 hwx hwc hlx hat hrg1 hlt1 hg1 hs1 hen
            have hcc : cntOf log x = c := by
              have h1 := HF.out x hwx
              rw [hat] at h1
              simpa using h1.symm
            subst hcc
            have HT7 : Hid (Turn Nope wq w7) := HT6.out.grown hg1 (fun k hk => .inr (by injection hk with hk; subst hk; exact HRB.out))
            have HM7 := Lib.hid (HM3.out.nope HT7.out)
            have HR7 := Lib.hid hrg1
            have HL1 := Lib.hid hlt1
            clear hat hrg1 hg1 hs1 hlt1 hwc hlx
            go_wp2_with fail
            refine (memc_who _ HM7.out x hwx).mono ?_
            rintro e w' ⟨rfl, rfl⟩
            go_wp2_with fail
            go_roundg cnt1
            case measure => exact HL1.out
            case rel => exact ⟨_, HR7.out, HT7.out⟩
end Go.Proofs.Ytpcfgigmchndjaa
