/- Who gets another pace: plain, and the walk of SchedSet. -/
import Derived.Test.YtdojdhpfhjhmfaaShare
set_option maxRecDepth 16000
set_option linter.unusedVariables false
namespace Go.Proofs.Ytdojdhpfhjhmfaa
open Go.RowKit
attribute [local go_sem] lib_max2 lib_min2 lib_max_two lib_min_two
def setT (S : Stt) (j : Nat) (p : Int) : Stt := ⟨S.t, dueL S.t (paceOf p) j (notOfT (j : Int) S.l), dueN (paceOf p) S.n⟩
theorem sch_set {w0 w : World} {s q : Nat} {pv : Value} {P : List Int} {S : Stt} (h : Sch w0 w s q pv P S) (hl : S.l.length ≤ 900) (hn : S.n ≤ 800000) {j : Nat} (hj : j < P.length) (p : Int) :
    Calls Try.prog 17 #[.pointer (some ⟨s, 0, none⟩), .int .i64 (j : Int), .int .i64 p] w fun e w' => e = .returned (.int .i64 0) ∧ Sch w0 w' s q pv (P.set j (paceOf p)) (setT S j p) ∧ Kx pv w w' := by
  have h0 := h.ok.t0
  have h1 := h.ok.t1
  refine (sb_set_ok h.at_ (by omega) (by omega) hj p h0 (by omega)).mono ?_
  rintro e w' ⟨he, h2, hk⟩
  exact ⟨he, ⟨h2, ((h.ok.set j _ (paceOf_in p)).drop (j : Int)).due (by rw [List.getElem?_set_self hj])⟩, hk⟩
theorem sch_set_bad {w0 w : World} {s q : Nat} {pv : Value} {P : List Int} {S : Stt} (h : Sch w0 w s q pv P S) (who p : Int) (hb : who < 0 ∨ (P.length : Int) ≤ who) :
    Calls Try.prog 17 #[.pointer (some ⟨s, 0, none⟩), .int .i64 who, .int .i64 p] w fun e w' => e = .returned (.int .i64 6) ∧ Sch w0 w' s q pv P S ∧ Ks w w' := by
  refine (sb_set_bad h.at_ who p hb).mono ?_
  rintro e w' ⟨he, h2, hk⟩
  exact ⟨he, ⟨h2, h.ok⟩, hk⟩
/-- Whom one waits for. -/
structure Wait (j : Nat) (p t : Int) (S : Stt) : Prop where
  only : ∀ x ∈ S.l, x.2 = (j : Int) → 0 < p ∧ x.1 = t + p
  has : 0 < p → ∃ x ∈ S.l, x.2 = (j : Int)
theorem Wait.set (S : Stt) (j : Nat) (p : Int) : Wait j (paceOf p) S.t (setT S j p) := by
  have hno : ∀ x ∈ notOfT (j : Int) S.l, x.2 ≠ (j : Int) := fun x hx => by
    have := (List.mem_filter.1 hx).2
    simpa using this
  refine ⟨fun x hx e => ?_, fun hp => ?_⟩
  · have hx : x ∈ dueL S.t (paceOf p) j (notOfT (j : Int) S.l) := hx
    unfold dueL at hx
    split at hx
    · rename_i hp
      rcases mem_insR hx with rfl | hx
      · exact ⟨hp, rfl⟩
      · exact absurd e (hno x hx)
    · exact absurd e (hno x hx)
  · refine ⟨(S.t + paceOf p, (j : Int)), ?_, rfl⟩
    show _ ∈ dueL S.t (paceOf p) j (notOfT (j : Int) S.l)
    unfold dueL
    rw [if_pos hp]
    exact mem_insR' (.inl rfl)
theorem Wait.step {P : List Int} {j : Nat} {p t u : Int} {S S' : Stt} (h : Wait j p t S) (ho : Okay P S.t S.l S.n) (hr : Rises S.l) (hs : stepT P S = some (u, S')) :
    (u = (j : Int) → 0 < p ∧ S'.t = t + p) ∧ (u ≠ (j : Int) → Wait j p t S' ∧ (0 < p → S'.t ≤ t + p)) := by
  unfold stepT at hs
  rcases hS : S.l with _ | ⟨⟨t1, u1⟩, l⟩
  · rw [hS] at hs; cases hs
  rw [hS] at hs hr
  injection hs with hs
  injection hs with h1 h2
  subst h1
  have hr1 := List.pairwise_cons.1 hr
  have ht' : S'.t = t1 := by rw [← h2]
  have hl' : S'.l = dueL t1 (paceAt P u1) u1.toNat l := by rw [← h2]
  obtain ⟨i, hi, _⟩ := ho.who _ (by rw [hS]; exact List.mem_cons_self)
  have hi : u1 = (i : Int) := hi
  refine ⟨fun e => ?_, fun e => ⟨⟨fun x hx hxj => ?_, fun hp => ?_⟩, fun hp => ?_⟩⟩
  · have := h.only _ (by rw [hS]; exact List.mem_cons_self) e
    rw [ht']
    exact this
  · rw [hl'] at hx
    have hin : x ∈ l → 0 < p ∧ x.1 = t + p := fun hx => h.only x (by rw [hS]; exact List.mem_cons_of_mem _ hx) hxj
    unfold dueL at hx
    split at hx
    · rcases mem_insR hx with rfl | hx
      · have hxj : ((u1.toNat : Nat) : Int) = (j : Int) := hxj
        rw [hi, Int.toNat_natCast, ← hi] at hxj
        exact absurd hxj e
      · exact hin hx
    · exact hin hx
  · obtain ⟨x, hx, ex⟩ := h.has hp
    rw [hS] at hx
    rcases List.mem_cons.1 hx with rfl | hx
    · exact absurd ex e
    · refine ⟨x, ?_, ex⟩
      rw [hl']
      unfold dueL
      split
      · exact mem_insR' (.inr hx)
      · exact hx
  · obtain ⟨x, hx, ex⟩ := h.has hp
    have h3 := h.only x hx ex
    rw [hS] at hx
    rw [ht', ← h3.2]
    rcases List.mem_cons.1 hx with rfl | hx
    · exact Int.le_refl _
    · exact hr1.1 x hx
theorem wrap_who (who : Int) (L : Nat) (h0 : 0 < L) (h6 : L ≤ 6) : ∃ (r1 r2 : Int) (j : Nat), Int.tmod who (L : Int) = r1 ∧ wrap64 r1 = r1 ∧ wrap64 (r1 + (L : Int)) = r2 ∧ Int.tmod r2 (L : Int) = (j : Int) ∧ j < L := by
  have h1 := Int.tmod_lt_of_pos who (show (0 : Int) < (L : Int) by omega)
  have h2 := Int.lt_tmod_of_pos who (show (0 : Int) < (L : Int) by omega)
  have h3 : 0 ≤ Int.tmod who (L : Int) + (L : Int) := by omega
  have h4 := Int.tmod_nonneg (L : Int) h3
  have h5 := Int.tmod_lt_of_pos (Int.tmod who (L : Int) + (L : Int)) (show (0 : Int) < (L : Int) by omega)
  refine ⟨_, Int.tmod who (L : Int) + (L : Int), (Int.tmod (Int.tmod who (L : Int) + (L : Int)) (L : Int)).toNat, rfl, IntWalk.wrap64_in _ ⟨by omega, by omega⟩, IntWalk.wrap64_in _ ⟨by omega, by omega⟩, by omega, by omega⟩
set_option maxHeartbeats 4000000 in
theorem set_walk (a : Option Addr) (len cap : Nat) (who pace turns : Int) (w : World) (hin : IntsIn w a len ∧ len ≤ cap) :
    Calls Try.prog 6 #[.slice a len cap, .int .i64 who, .int .i64 pace, .int .i64 turns] w fun e w' => e = .returned (.bool true) ∧ Below w.heap.size w w' := by
  obtain ⟨⟨hmx, ps, hps, hA, hwf⟩, hc⟩ := hin
  subst hps
  obtain ⟨m, hm1, hm⟩ : ∃ m : Nat, m ≤ 50 ∧ (if 50 < (if turns < 0 then 0 else turns) then 50 else (if turns < 0 then 0 else turns)) = (m : Int) := by
    refine ⟨(if 50 < (if turns < 0 then 0 else turns) then 50 else (if turns < 0 then 0 else turns)).toNat, ?_, ?_⟩ <;> (repeat' split) <;> omega
  obtain ⟨x1, hx1⟩ : ∃ x1, (if turns < 0 then 0 else turns) = x1 := ⟨_, rfl⟩
  rw [hx1] at hm
  have HA := Lib.hid hA
  have HM := Lib.hid hm
  have HX := Lib.hid hx1
  have HF := Lib.hid (fun (W : World) (h : NumsAt W a ps) => few_any h cap hc hmx)
  clear hA hm hx1 hmx hwf hc
  go_enter Try.func6, Try.ntmps6
  go_wp2_with fail
  refine (awake_any _).mono ?_
  rintro e w1 ⟨rfl, ht⟩
  have HT1 := Lib.hid ht
  have HA1 := Lib.hid (HA.out.later ht)
  clear ht
  go_wp2_with fail
  refine (HF.out _ HA1.out).mono ?_
  rintro e w2 ⟨c2, rfl, rfl⟩
  obtain ⟨qs, hqs⟩ : ∃ qs, ps.take 6 = qs := ⟨_, rfl⟩
  have hq6 : qs.length ≤ 6 := by rw [← hqs, List.length_take]; omega
  have HA2 := Lib.hid (HA1.out.take 6)
  rw [hqs] at HA2 ⊢
  clear HA HA1 HF hqs
  by_cases h0 : qs.length = 0
  · have d1 : ((qs.length : Int) == 0) = true := by simp [h0]
    have d1n : (qs.length == 0) = true := by simp [h0]
    clear h0
    go_wp2_with fail
    go_ret
    exact ⟨rfl, HT1.out.nopeBelow⟩
  have d1 : ((qs.length : Int) == 0) = false := by rw [beq_eq_false_iff_ne]; omega
  have d1n : (qs.length == 0) = false := by rw [beq_eq_false_iff_ne]; omega
  have hz1 : ¬ (qs.length : Int) = 0 := by omega
  obtain ⟨r1, r2, j, e1, e2, e3, e4, hjq⟩ := wrap_who who qs.length (by omega) hq6
  clear h0
  go_wp2_with fail
  simp only [e3]
  clear e1 e2 e3 e4 d1 d1n hz1
  refine (sch_new _ a c2 qs HA2.out (by omega)).mono ?_
  rintro e w3 ⟨s, q, pv, rfl, h3⟩
  have H3 := Lib.hid (h3.base HT1.out)
  clear h3 HA2
  obtain ⟨P, hP⟩ : ∃ P, qs.map paceOf = P := ⟨_, rfl⟩
  have HPL : Hid (P.length = qs.length) := by show _ = _; rw [← hP, List.length_map]
  rw [hP] at H3
  clear hP
  have HBN : Hid ((newS P).l.length ≤ 6 ∧ (newS P).n ≤ 6) := by
    have := newT_len P
    have := HPL.out
    exact ⟨by show (newT P).2.1.length ≤ 6; omega, by show (newT P).2.2 ≤ 6; omega⟩
  have hm := HM.out
  have hx1 := HX.out
  go_wp2_with fail
  refine (sch_picks H3.out (by have := HBN.out.1; omega) (by have := HBN.out.2; omega) (m : Int) m (by rw [if_neg (by omega)]) (by omega)).mono ?_
  rintro e w4 ⟨v4, rfl, _, h4, _⟩
  have HB4 : Hid ((runT P m (newS P)).2.l.length ≤ 6 ∧ (runT P m (newS P)).2.n ≤ 56) := by
    have := runT_bd P m (newS P)
    have := HBN.out
    exact ⟨by omega, by omega⟩
  obtain ⟨S1, hS1⟩ : ∃ S1, (runT P m (newS P)).2 = S1 := ⟨_, rfl⟩
  rw [hS1] at h4 HB4
  have H4 := Lib.hid h4
  clear h4 hS1 H3 hm hx1 HM HX HBN
  go_wp2_with fail
  refine (sb_tick H4.out.at_).mono ?_
  rintro e w' ⟨rfl, rfl⟩
  go_wp2_with fail
  refine (sch_set H4.out (by have := HB4.out.1; omega) (by have := HB4.out.2; omega) (j := j) (by rw [HPL.out]; exact hjq) pace).mono ?_
  rintro e w5 ⟨rfl, h5, _⟩
  have H5 := Lib.hid h5
  have HW5 := Lib.hid (Wait.set S1 j pace)
  have HB5 : Hid ((setT S1 j pace).l.length ≤ 7 ∧ (setT S1 j pace).n ≤ 57) := by
    have h1 := dueL_len S1.t (paceOf pace) j (notOfT (j : Int) S1.l)
    have h2 := notOfT_length (j : Int) S1.l
    have h3 := dueN_le (paceOf pace) S1.n
    have h4 := HB4.out
    exact ⟨by show (dueL S1.t (paceOf pace) j (notOfT (j : Int) S1.l)).length ≤ 7; omega, by show dueN (paceOf pace) S1.n ≤ 57; omega⟩
  have HTB : Hid (0 ≤ S1.t ∧ S1.t ≤ 100000000) := by
    have h0 := H4.out.ok.t0
    have h1 := H4.out.ok.t1
    have h2 := HB4.out.2
    exact ⟨h0, by omega⟩
  clear h5
  go_wp2_with fail
  refine (pace_any pace _).mono ?_
  rintro e w6 ⟨rfl, rfl⟩
  have HPN := Lib.hid (paceOf_in pace)
  generalize hpp : paceOf pace = p at *
  have HPP := Lib.hid hpp
  generalize setT S1 j pace = S2 at *
  generalize hat : S1.t = t0 at *
  clear hpp hat H4 HB4
  have HS0 : Hid (wrap64 (t0 + p) = t0 + p) := by
    have h1 := HTB.out; have h2 := HPN.out
    exact IntWalk.wrap64_in _ ⟨by omega, by omega⟩
  go_wp2_with fail
  go_loopg [46] 400 (fun k v46 wr => ∃ (i : Nat) (S : Stt), v46 = .int .i64 (i : Int) ∧ Hid (k + i = 400 ∧ S.l.length ≤ 7 ∧ S.n ≤ 57 + i) ∧ Hid (Sch w wr s q pv (P.set j p) S ∧ Wait j p t0 S))
  case atStart => exact ⟨0, S2, rfl, ⟨rfl, HB5.out.1, HB5.out.2⟩, H5.out, HW5.out⟩
  case round =>
    obtain ⟨i, S, rfl, hk, hS⟩ := hrel
    clear H5 HW5 HB5
    by_cases hlt : i < 400
    · have b1 : decide ((i : Int) < 400) = true := by simp; omega
      have b1n : decide (i < 400) = true := by simp; omega
      cases hst : stepT (P.set j p) S with
      | none =>
        have HST := Lib.hid hst
        have hp0 : p = 0 := by
          rcases Int.lt_or_le 0 p with h | h
          · obtain ⟨x, hx, _⟩ := hS.out.2.has h
            unfold stepT at hst
            cases hl : S.l with
            | nil => rw [hl] at hx; cases hx
            | cons y l => rw [hl] at hst; cases hst
          · have := HPN.out.1; omega
        have d1 : (p == 0) = true := by simp [hp0]
        clear hst hp0
        go_wp2_with fail
        refine (sch_next_none hS.out.1 HST.out).mono ?_
        rintro e w5 ⟨rfl, rfl⟩
        go_wp2_with fail
        go_ret
        exact ⟨rfl, hS.out.1.turn.nopeBelow⟩
      | some r =>
        obtain ⟨u, S'⟩ := r
        have HST := Lib.hid hst
        have HWS := Lib.hid (hS.out.2.step hS.out.1.ok hS.out.1.rises hst)
        have HBD := Lib.hid (stepT_bd hst)
        have HW : Hid (wrap64 ((i : Int) + 1) = (i : Int) + 1) := IntWalk.wrap64_in _ ⟨by omega, by omega⟩
        clear hst
        by_cases hu : u = (j : Int)
        · have HW2 := Lib.hid (HWS.out.1 hu)
          subst hu
          have f1 : ((j : Int) == (j : Int)) = true := by simp
          have f2 : decide (p > 0) = true := by have := HW2.out.1; simpa using this
          have f2' : decide (0 < p) = true := f2
          go_wp2_with fail
          refine (sch_next_some hS.out.1 (by have := hk.out.2.1; omega) (by have := hk.out.2.2; omega) HST.out).mono ?_
          rintro e w7 ⟨rfl, h7, _⟩
          have H7 := Lib.hid h7
          have htk := sb_tick h7.at_
          rw [HW2.out.2] at htk
          have HTK := Lib.hid htk
          clear h7 htk
          have hs0 := HS0.out
          have f3 : (t0 + p == t0 + p) = true := by simp
          go_wp2_with (go_at_call 12; refine (HTK.out).mono ?_; rintro e w' ⟨rfl, rfl⟩)
          go_ret
          exact ⟨rfl, H7.out.turn.nopeBelow⟩
        · have HW2 := Lib.hid (HWS.out.2 hu)
          have f1 : (u == (j : Int)) = false := by simpa using hu
          clear hu
          by_cases hp0 : 0 < p
          · have f2 : decide (p > 0) = true := by simpa using hp0
            have f2' : decide (0 < p) = true := f2
            have f3 : decide (S'.t > t0 + p) = false := by have := HW2.out.2 hp0; simp; omega
            have f3' : decide (t0 + p < S'.t) = false := f3
            go_wp2_with fail
            refine (sch_next_some hS.out.1 (by have := hk.out.2.1; omega) (by have := hk.out.2.2; omega) HST.out).mono ?_
            rintro e w7 ⟨rfl, h7, _⟩
            have H7 := Lib.hid h7
            clear h7
            have hs0 := HS0.out
            go_wp2_with (go_at_call 12; refine (sb_tick H7.out.at_).mono ?_; rintro e w' ⟨rfl, rfl⟩)
            have hw := HW.out
            try go_wp2_with fail
            go_roundg (400 - (i + 1))
            case measure => have := hk.out; omega
            case rel => exact ⟨i + 1, S', by go_num, ⟨by have := hk.out; omega, Nat.le_trans HBD.out.1 hk.out.2.1, by have := hk.out; have := HBD.out.2; omega⟩, H7.out, HW2.out.1⟩
          · have f2 : decide (p > 0) = false := by simpa using hp0
            have f2' : decide (0 < p) = false := f2
            clear hp0
            go_wp2_with fail
            refine (sch_next_some hS.out.1 (by have := hk.out.2.1; omega) (by have := hk.out.2.2; omega) HST.out).mono ?_
            rintro e w7 ⟨rfl, h7, _⟩
            have H7 := Lib.hid h7
            clear h7
            go_wp2_with fail
            have hw := HW.out
            try go_wp2_with fail
            go_roundg (400 - (i + 1))
            case measure => have := hk.out; omega
            case rel => exact ⟨i + 1, S', by go_num, ⟨by have := hk.out; omega, Nat.le_trans HBD.out.1 hk.out.2.1, by have := hk.out; have := HBD.out.2; omega⟩, H7.out, HW2.out.1⟩
    · have b1 : decide ((i : Int) < 400) = false := by simp; omega
      have b1n : decide (i < 400) = false := by simp; omega
      clear hlt
      go_wp2_with fail
      go_ret
      exact ⟨rfl, hS.out.1.turn.nopeBelow⟩
end Go.Proofs.Ytdojdhpfhjhmfaa
