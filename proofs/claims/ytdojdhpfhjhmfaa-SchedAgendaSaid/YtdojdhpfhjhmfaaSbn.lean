/- A schedule of paces: the walk of New. -/
import Derived.Test.YtdojdhpfhjhmfaaSnew
import Derived.Deep.RegionLaw
set_option maxRecDepth 16000
set_option linter.unusedVariables false
namespace Go.Proofs.Ytdojdhpfhjhmfaa
open Go.RowKit
variable {w w' w0 : World} {s q n : Nat} {P : List Int} {t : Int} {l : List Thing} {pv : Value}
attribute [local go_sem] lib_max2 lib_min2 lib_max_two lib_min_two
theorem One.base {w0 w1 w : World} (h : One w1 w q l n) (ht : Turn Nope w0 w1) : One w0 w q l n := by
  obtain ⟨F, h, h1, h2⟩ := h
  exact ⟨F, h, fun k hk => Nat.le_trans ht.size (h1 k hk), ht.trans h2⟩
theorem own_lower {b b' e size m : Nat} {v : Value} {xs : List Value} (h : w.ownsRow b e size v m xs) (hb : b' ≤ b) : w.ownsRow b' e size v m xs := by
  refine ⟨h.1, ?_⟩
  rcases h.2 with hn | ⟨g, cap, cur, hv, hg, rest⟩
  · exact .inl hn
  · exact .inr ⟨g, cap, cur, hv, Nat.le_trans hb hg, rest⟩
theorem SB.base {w0 w1 w : World} (h : SB w1 w s q pv P t l n) (ht : Turn Nope w0 w1) : SB w0 w s q pv P t l n :=
  ⟨h.one.base ht, h.hs, Nat.le_trans ht.size h.new, own_lower h.row ht.size⟩
/-- The paces grow by one. -/
theorem SB.push {wb w6 : World} {x : Int} {g cap m : Nat} (hm : P.length = m) (hb : SB w0 wb s q pv P t l n) (hg : wb.grownBy w6 pv.ownBlock)
    (ho : w6.ownsRow w0.heap.size 3 1 (.slice (some ⟨g, 0, none⟩) (m + 1) cap) (m + 1) (nums P ++ [.int .i64 x])) (ha : pv.ownBlock = some g ∨ g = wb.heap.size) :
    SB w0 (w6.setCell ⟨s, 1, none⟩ (.slice (some ⟨g, 0, none⟩) (m + 1) cap)) s q (.slice (some ⟨g, 0, none⟩) (m + 1) cap) (P ++ [x]) t l n ∧ Turn Nope w0 (w6.setCell ⟨s, 1, none⟩ (.slice (some ⟨g, 0, none⟩) (m + 1) cap)) := by
  subst hm
  have ht6 : Turn (OfRow pv) wb w6 := (Turn.refl _ _).grown hg fun k hk => .inl hk
  have hne : pv.ownBlock ≠ some s := fun e => own_ne hb.row hb.hs (by decide) s e rfl
  have hs6 : w6.heap[s]? = some (.cells #[.pointer (some ⟨q, 0, none⟩), pv, .int .i64 t] 35 (0, 0)) := blk_grown hb.hs hg hne
  have hgs : g ≠ s := by
    rintro rfl
    rcases ha with ha | ha
    · exact hne ha
    · have := blk_lt hb.hs; omega
  have hts : Turn (At s) w6 (w6.setCell ⟨s, 1, none⟩ (.slice (some ⟨g, 0, none⟩) (P.length + 1) cap)) := (Turn.refl _ _).set_at _
  obtain ⟨F, hq, h1, h2⟩ := hb.one
  have hsF := hq.other hb.hs (by decide) (by decide) (by decide)
  have hq6 := hq.keep ht6 fun k hk hk' => hq.row hb.row (by decide) (by decide) (by decide) k hk' hk
  have hq7 := hq6.keep hts fun k hk e => hsF (e ▸ hk)
  have h6 : Turn Nope w0 w6 := h2.growR hg hb.row (Nat.le_refl _)
  have h7 : Turn Nope w0 (w6.setCell ⟨s, 1, none⟩ (.slice (some ⟨g, 0, none⟩) (P.length + 1) cap)) := h6.set_new hb.new _
  refine ⟨⟨⟨F, hq7, h1, h7⟩, blk_set hs6 1 _, hb.new, ?_⟩, h7⟩
  have e1 : nums (P ++ [x]) = nums P ++ [.int .i64 x] := by simp [nums]
  rw [List.length_append, e1]
  refine own_turn ho hts fun k hk hk' => ?_
  have e2 : g = k := by simpa [Value.ownBlock] using hk
  exact hgs (e2.trans hk')
theorem map_take {ps : List Int} {i : Nat} {x : Int} (hx : ps[i]? = some x) : (ps.take (i + 1)).map paceOf = (ps.take i).map paceOf ++ [paceOf x] := by
  obtain ⟨hl, e⟩ := List.getElem?_eq_some_iff.1 hx
  rw [List.take_succ_eq_append_getElem hl, List.map_append, e]; rfl
/-- What New has made behind some paces. -/
def NewIs (w wr : World) (s q : Nat) (L : List Int) : Prop := ∃ pv, SB w wr s q pv L 0 (newT L).2.1 (newT L).2.2
set_option maxHeartbeats 4000000 in
theorem sb_new (w : World) (A : Option Addr) (cap : Nat) (ps : List Int) (hA : NumsAt w A ps) (hps : ps.length ≤ 1000) :
    Calls Try.prog 10 #[.slice A ps.length cap] w fun e w' => ∃ s q, e = .returned (.pointer (some ⟨s, 0, none⟩)) ∧ NewIs w w' s q (ps.map paceOf) := by
  have HA := Lib.hid hA
  obtain ⟨i3, hi3, hz3, hs3, hb3⟩ := info_parts Try.info3
  have I3 := Lib.hid (And.intro hi3 (And.intro hz3 (And.intro hs3 hb3)))
  clear hi3 hz3 hs3 hb3 hA
  go_enter Try.func10, Try.ntmps10
  go_wp2_with fail
  refine (one_new w w (Turn.refl _ _)).mono ?_
  rintro e w1 ⟨q, rfl, h1, ht1⟩
  have H1 := Lib.hid h1
  have HT1 := Lib.hid ht1
  clear h1 ht1
  go_wp2_with fail
  have HS2 : Hid (NewIs w (w1.alloc (.cells #[.pointer (some ⟨q, 0, none⟩), .slice none 0 0, .int .i64 0] 35)) w1.heap.size q []) :=
    ⟨.slice none 0 0, ⟨H1.out.nope ((Turn.refl _ _).alloc _), blk_new _ _, HT1.out.size, ⟨rfl, .inl ⟨rfl, rfl⟩⟩⟩⟩
  clear H1 HT1
  generalize w1.heap.size = s at *
  go_loopg [11] ps.length (fun k v11 wr => ∃ (i : Nat), v11 = .int .i64 (i : Int) ∧ Hid (k + i = ps.length) ∧ Hid (NewIs w wr s q ((ps.take i).map paceOf)))
  case atStart => exact ⟨0, rfl, rfl, HS2.out⟩
  case round =>
    obtain ⟨i, rfl, hk, hS⟩ := hrel
    clear HS2
    by_cases hlt : i < ps.length
    · have b1 : decide ((i : Int) < (ps.length : Int)) = true := by simp; omega
      have b1n : decide (i < ps.length) = true := by simp; omega
      obtain ⟨x, hx⟩ : ∃ x, ps[i]? = some x := ⟨ps[i], List.getElem?_eq_getElem hlt⟩
      obtain ⟨pv, hS'⟩ := hS.out
      have hmt := map_take hx
      have hP : ((ps.take i).map paceOf).length = i := by rw [List.length_map, List.length_take]; omega
      obtain ⟨L, hL⟩ : ∃ L, (ps.take i).map paceOf = L := ⟨_, rfl⟩
      rw [hL] at hS' hmt hP
      have HMT := Lib.hid hmt
      have HP := Lib.hid hP
      have HS3 := Lib.hid hS'
      have hrow := hS'.row
      rw [hP] at hrow
      have HROW := Lib.hid hrow
      clear hrow hmt hP hL
      clear hS'
      obtain ⟨ad, rfl, c0⟩ := HA.out i x hx
      have c0 := cell_later HS3.out.turn.nopeBelow c0
      have HX := Lib.hid hx
      have i0 : (0 : Int) ≤ (i : Int) := by omega
      have i1 : (i : Int) < (ps.length : Int) := by omega
      have hw : wrap64 ((i : Int) + 1) = (i : Int) + 1 := IntWalk.wrap64_in _ ⟨by omega, by omega⟩
      have HW := Lib.hid hw
      clear hw hx
      have HPX := Lib.hid (show (if 1048576 < (if x < 0 then 0 else x) then 1048576 else (if x < 0 then 0 else x)) = paceOf x from rfl)
      have SAT : Hid (∀ W : World, W.heap[s]? = some (.cells #[.pointer (some ⟨q, 0, none⟩), pv, .int .i64 0] 35 (0, 0)) → W.cell? ⟨s, 1, none⟩ = some pv ∧ W.frozen? ⟨s, 1, none⟩ = false) := by
        intro W h1
        exact ⟨by rw [blk_cell h1]; rfl, blk_frozen h1 1⟩
      have HNS : Hid (pv.ownBlock ≠ some s) := fun e => own_ne HS3.out.row HS3.out.hs (by decide) s e rfl
      obtain ⟨p1, p2⟩ := SAT.out wr HS3.out.hs
      have hpx : (if 1048576 < (if x < 0 then 0 else x) then 1048576 else (if x < 0 then 0 else x)) = paceOf x := HPX.out
      obtain ⟨x1, hx1⟩ : ∃ x1, (if x < 0 then 0 else x) = x1 := ⟨_, rfl⟩
      rw [hx1] at hpx
      generalize hpo : paceOf x = px at *
      have HPO := Lib.hid hpo
      clear hpo
      go_wp2_with (first
        | (at_builtin; refine wpList_append_lies _ rfl _ _ _ rfl w.heap.size 3 i3 _ 1 8 Try.underlying22 I3.out.1 I3.out.2.1 I3.out.2.2.1 I3.out.2.2.2 rfl (by omega) pv i (nums L) rfl (own_nope HROW.out ((Turn.refl _ _).alloc _)) ⟨wr.heap.size, 0, none⟩ 1 1 [.int .i64 px] rfl rfl (news_new wr _ 3) (by intro u hu; simp at hu; subst hu; rfl) (by omega) (by show i + 1 ≤ 9223372036854775807; omega) (by omega) (Nat.le_trans HS3.out.turn.size (by simp)) (wr.heap.size + 1) (by simp) ?_; intro g1 cap1 w6 hown hgr hat hlt2; have HO6 := Lib.hid hown; have HG6 := Lib.hid hgr; have HA6 := Lib.hid hat; clear hown hgr hat hlt2; obtain ⟨r1, r2⟩ := SAT.out w6 (blk_grown (blk_alloc HS3.out.hs _) HG6.out HNS.out)))
      have HBA : Hid (SB w (wr.alloc (.cells #[.int .i64 px] 3)) s q pv L 0 (newT L).2.1 (newT L).2.2) := HS3.out.nope ((Turn.refl _ _).alloc _)
      have hpu := HBA.out.push (x := px) HP.out HG6.out HO6.out (HA6.out.imp id (fun e => e.trans (by simp)))
      have hmt := HMT.out
      rw [← hmt] at hpu
      have hnt := newT_add L px
      rw [← hmt, (newT_len _).1, HP.out] at hnt
      have hnl := newT_len L
      rw [HP.out] at hnl
      have hpi : ((ps.take (i + 1)).map paceOf)[i]? = some px := by rw [hmt, List.getElem?_append_right (by rw [HP.out]; exact Nat.le_refl _), HP.out, Nat.sub_self]; rfl
      have hpin := paceOf_in x
      rw [HPO.out] at hpin
      have HPU := Lib.hid hpu.1
      have HNT := Lib.hid hnt
      have HNL := Lib.hid hnl
      have HPI := Lib.hid hpi
      have HPN := Lib.hid hpin
      clear hpu hmt hnt hnl hpi hpin hpx hx1 p1 p2 r1 r2 c0
      generalize w6.setCell ⟨s, 1, none⟩ _ = w7 at *
      refine (sb_due HPU.out (by have := HNL.out.2.1; omega) (by have := HNL.out.2.2; omega) HPI.out HPN.out.1 HPN.out.2 (by omega) (by omega)).mono ?_
      rintro e w8 ⟨rfl, h8, hk8⟩
      have H8 : Hid (NewIs w w8 s q ((ps.take (i + 1)).map paceOf)) := by
        refine ⟨.slice (some ⟨g1, 0, none⟩) (i + 1) cap1, ?_⟩
        rw [HNT.out]
        exact h8
      clear h8 hk8
      have hw := HW.out
      go_wp2_with fail
      go_roundg (ps.length - (i + 1))
      case measure => have := hk.out; omega
      case rel => exact ⟨i + 1, by go_num, by show _ = _; omega, H8.out⟩
    · have HF := Lib.hid (show i = ps.length by have := hk.out; omega)
      have b1 : decide ((i : Int) < (ps.length : Int)) = false := by simp; omega
      have b1n : decide (i < ps.length) = false := by simp; omega
      clear hlt
      go_wp2_with fail
      go_ret
      refine ⟨s, q, rfl, ?_⟩
      have h := hS.out
      rw [HF.out, List.take_length] at h
      exact h
end Go.Proofs.Ytdojdhpfhjhmfaa
