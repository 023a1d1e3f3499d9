/- What comes behind a sum was asked for. -/
import Derived.Test.YtojfknogdknhkaaAwake
set_option maxRecDepth 16000
set_option linter.unusedVariables false
set_option linter.unusedSimpArgs false
namespace Go.Proofs.Ytojfknogdknhkaa
open Go.RowKit
variable {w w' : World}
def cutP (s : ByteArray) (n : Nat) : ByteArray := if n < s.size then s.extract 0 n else s
theorem cutP_size (s : ByteArray) (n : Nat) : (cutP s n).size ≤ n := by
  unfold cutP
  split
  · rw [ByteArray.size_extract]; omega
  · omega
set_option maxHeartbeats 4000000 in
theorem cut_any (s : ByteArray) (n : Nat) (hn : n ≤ 1000000) (w : World) : Calls Try.prog 7 #[.string s, .int .i64 n] w fun e w' => e = .returned (.string (cutP s n)) ∧ w' = w := by
  go_enter Try.func7, Try.ntmps7
  by_cases h : n < s.size
  · have b1 : decide ((n : Int) < (s.size : Int)) = true := by simp; omega
    have b1n : decide (n < s.size) = true := by simp; omega
    have h0 : (0 : Int) ≤ (n : Int) := by omega
    have h1 : (n : Int) ≤ (s.size : Int) := by omega
    have h2 : n ≤ s.size := by omega
    go_wp2_with fail
    go_ret
    exact ⟨by unfold cutP; rw [if_pos h]; rfl, rfl⟩
  · have b1 : decide ((n : Int) < (s.size : Int)) = false := by simp; omega
    have b1n : decide (n < s.size) = false := by simp; omega
    go_wp2_with fail
    go_ret
    exact ⟨by unfold cutP; rw [if_neg h]; rfl, rfl⟩
theorem eqItems_self (cs : List Int) (V : Array Value) (hV : V.toList = cs.map (Value.int .u8)) (w : World) : ∀ is : List Nat, (∀ i ∈ is, i < cs.length) → (Op.eqItems 9999 5 1 V V is).run Try.prog w = .ok true w := by
  intro is
  induction is with
  | nil => intro _; simp [Op.eqItems]
  | cons i is ih =>
    intro h
    have hi := h i (by simp)
    have hp : (part 5 V (i * 1)).run Try.prog w = .ok (.int .u8 cs[i]) w :=
      run_part_plain w (by kernel_rfl) (by rw [Nat.mul_one, ← Array.getElem?_toList, hV]; simp [List.getElem?_eq_getElem hi])
    have he : (Op.equalIn 9999 5 (.int .u8 cs[i]) (.int .u8 cs[i])).run Try.prog w = .ok true w := by
      have := run_equalIn_int (P := Try.prog) w 9998 5 .u8 .u8 cs[i] cs[i] Try.underlying5
      simpa using this
    simp only [Op.eqItems, Sem.run_bind, hp, he, Result.andThen_ok]
    simpa using ih (fun j hj => h j (by simp [hj]))
theorem eqSum (cs : List Int) (hc : cs.length = 32) (V : Array Value) (hV : V.toList = cs.map (Value.int .u8)) (w : World) : (binOp .eql 24 (.agg V) (.agg V)).run Try.prog w = .ok (.bool true) w := by
  obtain ⟨i5, hi5, hz5, hs5, hb5⟩ := info_parts Try.info5
  have h1 := run_equalIn_array (P := Try.prog) w 9999 V V Try.underlying24 hi5
  rw [show Try.prog.cellsOf 5 = 1 by kernel_rfl, eqItems_self cs V hV w (List.range 32) (fun i hi => by rw [hc]; simpa using hi)] at h1
  have h2 : (Op.equal 24 (.agg V) (.agg V)).run Try.prog w = .ok true w := h1
  simp [binOp, h2]
theorem eqOut (s : St) (w : World) : (binOp .eql 24 (.agg (outA s)) (.agg (outA s))).run Try.prog w = .ok (.bool true) w := eqSum (stBytes s) (stBytes_length s) (outA s) (outA_list s) w
/-- Two hashes that are the call's own. -/
structure TwoH (w wr : World) (p t : Nat) (Lp Lt : List UInt8) : Prop where
  hp : HashIs wr p Lp
  ht : HashIs wr t Lt
  tn : Turn Nope w wr
  ne : p ≠ t ∧ w.heap.size ≤ p ∧ w.heap.size ≤ t
theorem TwoH.nope {w wr wr' : World} {p t : Nat} {Lp Lt : List UInt8} (h : TwoH w wr p t Lp Lt) (ht : Turn Nope wr wr') : TwoH w wr' p t Lp Lt :=
  ⟨h.hp.turn ht fun h => h, h.ht.turn ht fun h => h, h.tn.trans ht, h.ne⟩
theorem TwoH.addp {w wr wr' : World} {p t : Nat} {Lp Lt L : List UInt8} (h : TwoH w wr p t Lp Lt) (hp : HashIs wr' p L) (ht : Turn (At p) wr wr') : TwoH w wr' p t L Lt :=
  ⟨hp, h.ht.turn ht fun he => h.ne.1 he.symm, h.tn.then ht fun i hi => .inr (by have hi : i = p := hi; rw [hi]; exact h.ne.2.1), h.ne⟩
theorem TwoH.addt {w wr wr' : World} {p t : Nat} {Lp Lt L : List UInt8} (h : TwoH w wr p t Lp Lt) (hp : HashIs wr' t L) (ht : Turn (At t) wr wr') : TwoH w wr' p t Lp L :=
  ⟨h.hp.turn ht fun he => h.ne.1 he, hp, h.tn.then ht fun i hi => .inr (by have hi : i = t := hi; rw [hi]; exact h.ne.2.2), h.ne⟩
theorem data_len (s : ByteArray) : s.data.toList.length = s.size := rfl
theorem data_app (a b : ByteArray) : (a ++ b).data.toList = a.data.toList ++ b.data.toList := by rw [ByteArray.data_append, Array.toList_append]
set_option maxHeartbeats 8000000 in
theorem more_walk (a b c : ByteArray) (w : World) (_ha : a.size ≤ 140737488351232) (_hb : b.size ≤ 140737488351232) (_hc : c.size ≤ 140737488351232) :
    Calls Try.prog 6 #[.string a, .string b, .string c] w fun e w' => e = .returned (.bool true) ∧ Below w.heap.size w w' := by
  go_enter Try.func6, Try.ntmps6
  go_wp2_with fail
  refine (cut_any a 80 (by decide) _).mono ?_
  rintro e w1 ⟨rfl, rfl⟩
  go_wp2_with fail
  refine (cut_any b 80 (by decide) _).mono ?_
  rintro e w1 ⟨rfl, rfl⟩
  go_wp2_with fail
  refine (cut_any c 80 (by decide) _).mono ?_
  rintro e w1 ⟨rfl, rfl⟩
  have ha := cutP_size a 80
  have hb := cutP_size b 80
  have hc := cutP_size c 80
  generalize cutP a 80 = a at ha ⊢
  generalize cutP b 80 = b at hb ⊢
  generalize cutP c 80 = c at hc ⊢
  go_wp2_with fail
  refine (awake_any _).mono ?_
  rintro e w2 ⟨rfl, ht⟩
  have H2 := Lib.hid ht
  clear ht
  go_wp2_with fail
  refine (new_h _).mono ?_
  rintro e w3 ⟨p, rfl, hp, hh, ht⟩
  have H3 := Lib.hid (And.intro hp (And.intro hh ht))
  clear hp hh ht
  go_wp2_with fail
  refine (new_h _).mono ?_
  rintro e w4 ⟨t, rfl, hp, hh, ht⟩
  have H4 : Hid (TwoH w1 w4 p t [] []) := ⟨H3.out.2.1.turn ht fun h => h, hh, (H2.out.trans H3.out.2.2).trans ht, by have := H3.out.2.1.lt; omega, by have := H2.out.size; have := H3.out.1; omega, by have := H2.out.size; have := H3.out.2.2.size; omega⟩
  clear hp hh ht H3 H2
  go_wp2_with fail
  refine (add_h p [] (by decide) a (by omega) _ H4.out.hp).mono ?_
  rintro e w5 ⟨rfl, hh, ht⟩
  have H5 := Lib.hid (H4.out.addp hh ht)
  clear hh ht H4
  go_wp2_with fail
  refine (add_h t [] (by decide) c (by omega) _ H5.out.ht).mono ?_
  rintro e w6 ⟨rfl, hh, ht⟩
  have H6 := Lib.hid (H5.out.addt hh ht)
  clear hh ht H5
  go_wp2_with fail
  refine (sum_h p _ (by simp [data_len]; omega) _ H6.out.hp).mono ?_
  rintro e w7 ⟨rfl, ht⟩
  have H7 := Lib.hid (H6.out.nope ht)
  clear ht H6
  go_wp2_with fail
  refine (add_h p _ (by simp [data_len]; omega) b (by omega) _ H7.out.hp).mono ?_
  rintro e w8 ⟨rfl, hh, ht⟩
  have H8 := Lib.hid (H7.out.addp hh ht)
  clear hh ht H7
  go_wp2_with fail
  refine (add_h t _ (by simp [data_len]; omega) c (by omega) _ H8.out.ht).mono ?_
  rintro e w9 ⟨rfl, hh, ht⟩
  have H9 := Lib.hid (H8.out.addt hh ht)
  clear hh ht H8
  have hsab : ¬ 9223372036854775807 < a.size + b.size := by omega
  have hscc : ¬ 9223372036854775807 < c.size + c.size := by omega
  obtain ⟨S1, hS1⟩ : ∃ S, sumP (([] ++ a.data.toList) ++ b.data.toList) = S := ⟨_, rfl⟩
  obtain ⟨S2, hS2⟩ : ∃ S, sumP (([] ++ c.data.toList) ++ c.data.toList) = S := ⟨_, rfl⟩
  have e1 := eqOut S1
  have e2 := eqOut S2
  go_wp2_with fail
  have hm1 := sum_h p _ (by simp [data_len]; omega) w9 H9.out.hp
  rw [hS1] at hm1
  refine hm1.mono ?_
  clear hm1
  rintro e w10 ⟨rfl, ht⟩
  have H10 := Lib.hid (H9.out.nope ht)
  clear ht H9
  obtain ⟨O1, hO1⟩ : ∃ O, outA S1 = O := ⟨_, rfl⟩
  rw [hO1] at e1 ⊢
  go_wp2_with fail
  have hm1 := of_any (a ++ b) (by rw [ByteArray.size_append]; omega) w10
  rw [data_app, show a.data.toList ++ b.data.toList = ([] ++ a.data.toList) ++ b.data.toList by simp, hS1, hO1] at hm1
  refine hm1.mono ?_
  clear hm1
  rintro e w11 ⟨rfl, ht⟩
  have H11 := Lib.hid (H10.out.nope ht)
  clear ht H10
  go_wp2_with fail
  clear e1
  have hm1 := sum_h t _ (by simp [data_len]; omega) w11 H11.out.ht
  rw [hS2] at hm1
  refine hm1.mono ?_
  clear hm1
  rintro e w12 ⟨rfl, ht⟩
  have H12 := Lib.hid (H11.out.nope ht)
  clear ht H11
  obtain ⟨O2, hO2⟩ : ∃ O, outA S2 = O := ⟨_, rfl⟩
  rw [hO2] at e2 ⊢
  go_wp2_with fail
  have hm1 := of_any (c ++ c) (by rw [ByteArray.size_append]; omega) w12
  rw [data_app, show c.data.toList ++ c.data.toList = ([] ++ c.data.toList) ++ c.data.toList by simp, hS2, hO2] at hm1
  refine hm1.mono ?_
  clear hm1
  rintro e w13 ⟨rfl, ht⟩
  have H13 := Lib.hid (H12.out.nope ht)
  clear ht H12
  go_wp2_with fail
  clear e2
  have e1 := eqOut S1
  rw [hO1] at e1
  have hm1 := sum_h p _ (by simp [data_len]; omega) w13 H13.out.hp
  rw [hS1, hO1] at hm1
  refine hm1.mono ?_
  clear hm1
  rintro e w14 ⟨rfl, ht⟩
  have H14 := Lib.hid (H13.out.nope ht)
  clear ht H13
  go_wp2_with fail
  have hm1 := sum_h p _ (by simp [data_len]; omega) w14 H14.out.hp
  rw [hS1, hO1] at hm1
  refine hm1.mono ?_
  clear hm1
  rintro e w15 ⟨rfl, ht⟩
  have H15 := Lib.hid (H14.out.nope ht)
  clear ht H14
  go_wp2_with fail
  go_ret
  exact ⟨rfl, H15.out.tn.nopeBelow⟩
end Go.Proofs.Ytojfknogdknhkaa
