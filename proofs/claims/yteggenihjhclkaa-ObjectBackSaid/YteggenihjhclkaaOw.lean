/- Touches and Apart of an object's ops, walked. -/
import Derived.Test.YteggenihjhclkaaOa
set_option maxRecDepth 16000
set_option linter.unusedVariables false
set_option linter.unusedSimpArgs false
namespace Go.Proofs.Yteggenihjhclkaa
open Go.RowKit Go.Maps
open Lg (Nm nmOf arr_nm nm_len)
variable {w0 w w' W W' : World} {b m c : Nat} {P Q R : PS}
def touchL (o : OOp) : List Nm := if o.k = 2 then Lg.tch (nmOf o.ln) (nmOf o.lt) 2 else if o.k = 3 then [nmOf o.sn] else []
theorem touchL_len (o : OOp) : (touchL o).length ≤ 2 := by
  unfold touchL
  split
  · exact Lg.tch_len _ _ _
  · split
    · show 1 ≤ 2; omega
    · exact Nat.zero_le _
set_option maxHeartbeats 8000000 in
theorem otouches_any (o : OOp) (w : World) :
    Calls Try.prog 19 #[.agg (opC o)] w fun e w' => ∃ A c, e = .returned (.tuple #[.slice A (touchL o).length c, .bool (decide (o.k = 2 ∨ o.k = 3))]) ∧ (SRow w' A (touchL o) ∧ (touchL o).length ≤ c) ∧ Turn Nope w w' := by
  obtain ⟨k, tk, ta, ts, tn, lk, ln, lt, la, sk, sn, sN⟩ := o
  unfold opC
  by_cases h2 : k = 2
  · have e1 : touchL ⟨k, tk, ta, ts, tn, lk, ln, lt, la, sk, sn, sN⟩ = Lg.tch (nmOf ln) (nmOf lt) 2 := by unfold touchL; rw [if_pos h2]
    have e2 : decide (k = 2 ∨ k = 3) = true := by simp [h2]
    rw [e1]
    show Calls Try.prog 19 #[.agg #[.int .i64 k, .int .i64 tk, .int .i64 ta, .string ts, .int .i64 tn, .int .i64 lk, .string ln, .string lt, .int .i64 la, .int .i64 sk, .string sn, .int .i64 sN]] w fun e w' => ∃ A c, e = .returned (.tuple #[.slice A _ c, .bool (decide (k = 2 ∨ k = 3))]) ∧ _ ∧ _
    rw [e2]
    have hk : (k == 2) = true := by simpa using h2
    have HTC := Lib.hid (fun W => Lg.touches_any lk la ln lt W)
    obtain ⟨L, hL⟩ : ∃ L, Lg.tch (nmOf ln) (nmOf lt) 2 = L := ⟨_, rfl⟩
    rw [hL] at HTC ⊢
    clear e1 e2 h2 hL
    go_enter Try.func19, Try.ntmps19
    go_wp2_with fail
    have T0 : Hid (Turn Nope w (w.alloc (.cells #[.int .i64 k, .int .i64 tk, .int .i64 ta, .string ts, .int .i64 tn, .int .i64 lk, .string ln, .string lt, .int .i64 la, .int .i64 sk, .string sn, .int .i64 sN] 30))) := (Turn.refl _ _).alloc _
    generalize w.alloc (.cells #[.int .i64 k, .int .i64 tk, .int .i64 ta, .string ts, .int .i64 tn, .int .i64 lk, .string ln, .string lt, .int .i64 la, .int .i64 sk, .string sn, .int .i64 sN] 30) = w1 at T0 ⊢
    refine (HTC.out w1).mono ?_
    rintro e w2 ⟨v, rfl, hrow, ht⟩
    obtain ⟨A1, c1, rfl, hc1⟩ := own_slice hrow
    have HR := Lib.hid (And.intro (SRow.own hrow) hc1)
    have HT := Lib.hid (T0.out.trans ht)
    clear hrow hc1 ht
    go_wp2_with fail
    go_ret2
    exact ⟨A1, c1, rfl, HR.out, HT.out⟩
  · by_cases h3 : k = 3
    · have e1 : touchL ⟨k, tk, ta, ts, tn, lk, ln, lt, la, sk, sn, sN⟩ = [nmOf sn] := by unfold touchL; rw [if_neg h2, if_pos h3]
      have e2 : decide (k = 2 ∨ k = 3) = true := by simp [h3]
      rw [e1]
      show Calls Try.prog 19 #[.agg #[.int .i64 k, .int .i64 tk, .int .i64 ta, .string ts, .int .i64 tn, .int .i64 lk, .string ln, .string lt, .int .i64 la, .int .i64 sk, .string sn, .int .i64 sN]] w fun e w' => ∃ A c, e = .returned (.tuple #[.slice A 1 c, .bool (decide (k = 2 ∨ k = 3))]) ∧ _ ∧ _
      rw [e2]
      have hk2 : (k == 2) = false := by simpa using h2
      have hk : (k == 3) = true := by simpa using h3
      clear e1 e2 h2 h3
      go_enter Try.func19, Try.ntmps19
      go_wp2_with fail
      go_ret2
      refine ⟨_, _, rfl, ⟨fun j x hj => ?_, Nat.le_refl _⟩, ((Turn.refl _ _).alloc _).alloc _⟩
      have hj0 : j = 0 := by have := (List.getElem?_eq_some_iff.1 hj).1; simp at this; exact this
      subst hj0
      have hx : nmOf sn = x := by simpa using hj
      refine ⟨_, rfl, ?_⟩
      rw [← hx, arr_nm]
      simp
    · have e1 : touchL ⟨k, tk, ta, ts, tn, lk, ln, lt, la, sk, sn, sN⟩ = [] := by unfold touchL; rw [if_neg h2, if_neg h3]
      have e2 : decide (k = 2 ∨ k = 3) = false := by simp [h2, h3]
      rw [e1]
      show Calls Try.prog 19 #[.agg #[.int .i64 k, .int .i64 tk, .int .i64 ta, .string ts, .int .i64 tn, .int .i64 lk, .string ln, .string lt, .int .i64 la, .int .i64 sk, .string sn, .int .i64 sN]] w fun e w' => ∃ A c, e = .returned (.tuple #[.slice A 0 c, .bool (decide (k = 2 ∨ k = 3))]) ∧ _ ∧ _
      rw [e2]
      have hk2 : (k == 2) = false := by simpa using h2
      have hk : (k == 3) = false := by simpa using h3
      clear e1 e2 h2 h3
      go_enter Try.func19, Try.ntmps19
      go_wp2_with fail
      go_ret2
      exact ⟨_, _, rfl, ⟨fun j x hj => by simp at hj, Nat.le_refl _⟩, (Turn.refl _ _).alloc _⟩
/-- Apart: the plain law. -/
def oApart (a b : OOp) : Bool := decide (a.k = b.k) && decide (a.k = 2 ∨ a.k = 3) && decide (b.k = 2 ∨ b.k = 3) && !decide (∃ x ∈ touchL a, x ∈ touchL b)
set_option maxHeartbeats 8000000 in
theorem oapart_any (a b : OOp) (w : World) :
    Calls Try.prog 9 #[.agg (opC a), .agg (opC b)] w fun e w' => e = .returned (.bool (oApart a b)) ∧ Turn Nope w w' := by
  have HTA := Lib.hid (fun W => otouches_any a W)
  have HTB := Lib.hid (fun W => otouches_any b W)
  have HLN := Lib.hid (And.intro (touchL_len a) (touchL_len b))
  unfold oApart
  unfold opC at HTA HTB ⊢
  obtain ⟨LA, hLA⟩ : ∃ L, touchL a = L := ⟨_, rfl⟩
  obtain ⟨LB, hLB⟩ : ∃ L, touchL b = L := ⟨_, rfl⟩
  rw [hLA] at HTA HLN ⊢
  rw [hLB] at HTB HLN ⊢
  clear hLA hLB
  obtain ⟨da, hda⟩ : ∃ d, decide (a.k = 2 ∨ a.k = 3) = d := ⟨_, rfl⟩
  obtain ⟨db, hdb⟩ : ∃ d, decide (b.k = 2 ∨ b.k = 3) = d := ⟨_, rfl⟩
  rw [hda] at HTA ⊢
  rw [hdb] at HTB ⊢
  obtain ⟨dk, hdk⟩ : ∃ d, decide (a.k = b.k) = d := ⟨_, rfl⟩
  have hk1 : (a.k == b.k) = dk := by rw [← hdk, Bool.eq_iff_iff, beq_iff_eq, decide_eq_true_iff]
  have HDK := Lib.hid hk1
  obtain ⟨dx, hdx⟩ : ∃ d, decide (∃ x ∈ LA, x ∈ LB) = d := ⟨_, rfl⟩
  have HDX := Lib.hid hdx
  rw [hdk, hdx]
  clear hda hdb hdk hdx hk1
  go_enter Try.func9, Try.ntmps9
  go_wp2_with fail
  have T0 : Hid (Turn Nope w ((w.alloc (.cells #[.int .i64 a.k, .int .i64 a.tk, .int .i64 a.ta, .string a.ts, .int .i64 a.tn, .int .i64 a.lk, .string a.ln, .string a.lt, .int .i64 a.la, .int .i64 a.sk, .string a.sn, .int .i64 a.sN] 30)).alloc (.cells #[.int .i64 b.k, .int .i64 b.tk, .int .i64 b.ta, .string b.ts, .int .i64 b.tn, .int .i64 b.lk, .string b.ln, .string b.lt, .int .i64 b.la, .int .i64 b.sk, .string b.sn, .int .i64 b.sN] 30))) := ((Turn.refl _ _).alloc _).alloc _
  have BA : Hid (((w.alloc (.cells #[.int .i64 a.k, .int .i64 a.tk, .int .i64 a.ta, .string a.ts, .int .i64 a.tn, .int .i64 a.lk, .string a.ln, .string a.lt, .int .i64 a.la, .int .i64 a.sk, .string a.sn, .int .i64 a.sN] 30)).alloc (.cells #[.int .i64 b.k, .int .i64 b.tk, .int .i64 b.ta, .string b.ts, .int .i64 b.tn, .int .i64 b.lk, .string b.ln, .string b.lt, .int .i64 b.la, .int .i64 b.sk, .string b.sn, .int .i64 b.sN] 30)).heap[w.heap.size]? = some (.cells #[.int .i64 a.k, .int .i64 a.tk, .int .i64 a.ta, .string a.ts, .int .i64 a.tn, .int .i64 a.lk, .string a.ln, .string a.lt, .int .i64 a.la, .int .i64 a.sk, .string a.sn, .int .i64 a.sN] 30 (0, 0))) := blk_alloc (blk_new _ _) _
  have BB : Hid (((w.alloc (.cells #[.int .i64 a.k, .int .i64 a.tk, .int .i64 a.ta, .string a.ts, .int .i64 a.tn, .int .i64 a.lk, .string a.ln, .string a.lt, .int .i64 a.la, .int .i64 a.sk, .string a.sn, .int .i64 a.sN] 30)).alloc (.cells #[.int .i64 b.k, .int .i64 b.tk, .int .i64 b.ta, .string b.ts, .int .i64 b.tn, .int .i64 b.lk, .string b.ln, .string b.lt, .int .i64 b.la, .int .i64 b.sk, .string b.sn, .int .i64 b.sN] 30)).heap[w.heap.size + 1]? = some (.cells #[.int .i64 b.k, .int .i64 b.tk, .int .i64 b.ta, .string b.ts, .int .i64 b.tn, .int .i64 b.lk, .string b.ln, .string b.lt, .int .i64 b.la, .int .i64 b.sk, .string b.sn, .int .i64 b.sN] 30 (0, 0))) := by
    have := blk_new (w.alloc (.cells #[.int .i64 a.k, .int .i64 a.tk, .int .i64 a.ta, .string a.ts, .int .i64 a.tn, .int .i64 a.lk, .string a.ln, .string a.lt, .int .i64 a.la, .int .i64 a.sk, .string a.sn, .int .i64 a.sN] 30)) (.cells #[.int .i64 b.k, .int .i64 b.tk, .int .i64 b.ta, .string b.ts, .int .i64 b.tn, .int .i64 b.lk, .string b.ln, .string b.lt, .int .i64 b.la, .int .i64 b.sk, .string b.sn, .int .i64 b.sN] 30)
    rw [show (w.alloc (.cells #[.int .i64 a.k, .int .i64 a.tk, .int .i64 a.ta, .string a.ts, .int .i64 a.tn, .int .i64 a.lk, .string a.ln, .string a.lt, .int .i64 a.la, .int .i64 a.sk, .string a.sn, .int .i64 a.sN] 30)).heap.size = w.heap.size + 1 by simp] at this
    exact this
  generalize ((w.alloc (.cells #[.int .i64 a.k, .int .i64 a.tk, .int .i64 a.ta, .string a.ts, .int .i64 a.tn, .int .i64 a.lk, .string a.ln, .string a.lt, .int .i64 a.la, .int .i64 a.sk, .string a.sn, .int .i64 a.sN] 30)).alloc (.cells #[.int .i64 b.k, .int .i64 b.tk, .int .i64 b.ta, .string b.ts, .int .i64 b.tn, .int .i64 b.lk, .string b.ln, .string b.lt, .int .i64 b.la, .int .i64 b.sk, .string b.sn, .int .i64 b.sN] 30)) = w1 at T0 BA BB ⊢
  generalize w.heap.size + 1 = gb at BB ⊢
  generalize w.heap.size = ga at BA ⊢
  refine (HTA.out w1).mono ?_
  rintro e w2 ⟨A1, c1, rfl, hr, ht⟩
  have HR2 := Lib.hid hr
  have T2 := Lib.hid (T0.out.trans ht)
  have BA2 := Lib.hid (ht.blk BA.out fun h => h)
  have BB2 := Lib.hid (ht.blk BB.out fun h => h)
  clear hr ht T0 BA BB
  have c0 := blk_cell BB2.out 0
  have c1 := blk_cell BB2.out 1
  have c2 := blk_cell BB2.out 2
  have c3 := blk_cell BB2.out 3
  have c4 := blk_cell BB2.out 4
  have c5 := blk_cell BB2.out 5
  have c6 := blk_cell BB2.out 6
  have c7 := blk_cell BB2.out 7
  have c8 := blk_cell BB2.out 8
  have c9 := blk_cell BB2.out 9
  have c10 := blk_cell BB2.out 10
  have c11 := blk_cell BB2.out 11
  simp only [List.getElem?_toArray, List.getElem?_cons_zero, List.getElem?_cons_succ] at c0 c1 c2 c3 c4 c5 c6 c7 c8 c9 c10 c11
  go_wp2_with fail
  clear c0 c1 c2 c3 c4 c5 c6 c7 c8 c9 c10 c11
  refine (HTB.out w2).mono ?_
  rintro e w3 ⟨A2, c2, rfl, hr, ht⟩
  have HR3 := Lib.hid (And.intro (HR2.out.1.later ht) HR2.out.2)
  have HB3 := Lib.hid hr
  have T3 := Lib.hid (T2.out.trans ht)
  have a0 := blk_cell (ht.blk BA2.out fun h => h) 0
  have b0 := blk_cell (ht.blk BB2.out fun h => h) 0
  simp only [List.getElem?_toArray, List.getElem?_cons_zero] at a0 b0
  have HW := Lib.hid (And.intro a0 b0)
  clear hr ht HR2 T2 BA2 BB2 a0 b0
  go_upto_region 3 with fail
  have HQ := Lib.hid (blk_new w3 (.cells #[.slice A2 LB.length c2] 61))
  have T4 := Lib.hid (T3.out.alloc (.cells #[.slice A2 LB.length c2] 61))
  have HR4 := Lib.hid (And.intro (HR3.out.1.later ((Turn.refl _ _).alloc (.cells #[.slice A2 LB.length c2] 61))) (HB3.out.1.later ((Turn.refl _ _).alloc (.cells #[.slice A2 LB.length c2] 61))))
  have a0 := cell_later ((Turn.refl Nope w3).alloc (.cells #[.slice A2 LB.length c2] 61)).nopeBelow HW.out.1
  have b0 := cell_later ((Turn.refl Nope w3).alloc (.cells #[.slice A2 LB.length c2] 61)).nopeBelow HW.out.2
  generalize w3.alloc (.cells #[.slice A2 LB.length c2] 61) = w4 at HQ T4 HR4 a0 b0 ⊢
  generalize w3.heap.size = q at HQ ⊢
  have cq := blk_cell HQ.out 0
  simp only [List.getElem?_toArray, List.getElem?_cons_zero] at cq
  have hmf : ∀ (fn : Fn) (first cap : Array Value) (w : World), (Instr.makeFunc fn first cap).run Try.prog w = .ok (.func fn first cap) w := fun _ _ _ _ => rfl
  have hk1 := HDK.out
  cases dk with
  | true =>
    cases da with
    | false =>
      go_wp2_with fail
      go_ret
      exact ⟨rfl, T4.out⟩
    | true =>
      cases db with
      | false =>
        go_wp2_with fail
        go_ret
        exact ⟨rfl, T4.out⟩
      | true =>
        go_wp2_with fail
        refine (containsf_any c1 c2 q HR4.out.1 HR3.out.2 (by have := HLN.out; omega) HR4.out.2 HB3.out.2 (by have := HLN.out; omega) cq).mono ?_
        rintro e w5 ⟨rfl, rfl⟩
        rw [HDX.out]
        go_wp2_with fail
        go_ret
        exact ⟨rfl, T4.out⟩
  | false =>
    go_wp2_with fail
    go_ret
    exact ⟨rfl, T4.out⟩
end Go.Proofs.Yteggenihjhclkaa
