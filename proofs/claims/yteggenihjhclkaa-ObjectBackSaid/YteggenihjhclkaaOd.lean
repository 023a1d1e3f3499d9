/- New, Load, Clone of an object, walked; two objects that are the same. -/
import Derived.Test.YteggenihjhclkaaOc
set_option maxRecDepth 16000
set_option linter.unusedVariables false
set_option linter.unusedSimpArgs false
namespace Go.Proofs.Yteggenihjhclkaa
open Go.RowKit Go.Maps
variable {w0 w w' : World} {b m c : Nat} {P Q R : PS}
/-- The same object: its accounts, its goods in whatever order. -/
def PS.eqv : PS → PS → Prop
  | .tx s, .tx s' => s = s'
  | .lg C K, .lg C' K' => C' = C ∧ K'.Perm K
  | .sk C K, .sk C' K' => C' = C ∧ K'.Perm K
  | _, _ => False
theorem PS.eqv.refl (P : PS) : P.eqv P := by cases P <;> first | rfl | exact ⟨rfl, List.Perm.refl _⟩
theorem PS.eqv.symm (h : P.eqv Q) : Q.eqv P := by
  cases P <;> cases Q <;> first | exact h.elim | exact Eq.symm h | exact ⟨h.1.symm, h.2.symm⟩
theorem PS.eqv.trans (h : P.eqv Q) (k : Q.eqv R) : P.eqv R := by
  cases P <;> cases Q <;> (try exact h.elim) <;> cases R <;> first | exact k.elim | exact Eq.trans h k | exact ⟨k.1.trans h.1, k.2.trans h.2⟩
theorem PS.eqv.kind (h : P.eqv Q) : Q.kind = P.kind := by cases P <;> cases Q <;> first | rfl | exact h.elim
theorem sk_srt {K K' : List Sk.Nm} (h : K'.Perm K) : Sk.srt K' = Sk.srt K := Sk.srt_perm h
theorem PS.eqv.saved (h : P.eqv Q) : Q.saved = P.saved := by
  cases P with
  | tx s => cases Q with
    | tx s' => have h : s = s' := h; rw [h]
    | lg C K => exact h.elim
    | sk C K => exact h.elim
  | lg C K => cases Q with
    | tx s' => exact h.elim
    | lg C' K' => obtain ⟨rfl, h⟩ := h; exact Lg.saved_same h
    | sk C K => exact h.elim
  | sk C K => cases Q with
    | tx s' => exact h.elim
    | lg C' K' => exact h.elim
    | sk C' K' => obtain ⟨rfl, h⟩ := h; show Sk.savedS _ _ = Sk.savedS _ _; unfold Sk.savedS; rw [sk_srt h]
theorem lg_doE_perm {C : Lg.Nm → Int} {K K' : List Lg.Nm} (h : K'.Perm K) (o : Lg.Op4) : Lg.doE C K' o = Lg.doE C K o := by
  unfold Lg.doE
  simp only [h.mem_iff, h.length_eq]
theorem sk_doE_perm {C : Sk.Nm → Int} {K K' : List Sk.Nm} (h : K'.Perm K) (o : Sk.Op3) : Sk.doE C K' o = Sk.doE C K o := by
  unfold Sk.doE
  simp only [h.length_eq]
theorem sk_newK_perm {C : Sk.Nm → Int} {K K' : List Sk.Nm} (h : K'.Perm K) (o : Sk.Op3) : (Sk.newK C K' o).Perm (Sk.newK C K o) := by
  unfold Sk.newK
  split
  · split
    · exact h.erase _
    · exact h
  · split
    · exact h.cons _
    · exact h
theorem PS.eqv.err (h : P.eqv Q) (o : OOp) : Q.err o = P.err o := by
  cases P with
  | tx s => cases Q with
    | tx s' => have h : s = s' := h; rw [h]
    | lg C K => exact h.elim
    | sk C K => exact h.elim
  | lg C K => cases Q with
    | tx s' => exact h.elim
    | lg C' K' => obtain ⟨rfl, h⟩ := h; unfold PS.err; dsimp only; rw [lg_doE_perm h]
    | sk C K => exact h.elim
  | sk C K => cases Q with
    | tx s' => exact h.elim
    | lg C' K' => exact h.elim
    | sk C' K' => obtain ⟨rfl, h⟩ := h; unfold PS.err; dsimp only; rw [sk_doE_perm h]
theorem PS.eqv.gone (h : P.eqv Q) (o : OOp) : Q.gone o = P.gone o := by
  cases P with
  | tx s => cases Q with
    | tx s' => have h : s = s' := h; rw [h]
    | lg C K => exact h.elim
    | sk C K => exact h.elim
  | lg C K => cases Q <;> first | exact h.elim | rfl
  | sk C K => cases Q <;> first | exact h.elim | rfl
theorem PS.eqv.nxt (h : P.eqv Q) (o : OOp) : (P.nxt o).eqv (Q.nxt o) := by
  cases P with
  | tx s => cases Q with
    | tx s' => have h : s = s' := h; rw [h]; exact PS.eqv.refl _
    | lg C K => exact h.elim
    | sk C K => exact h.elim
  | lg C K => cases Q with
    | tx s' => exact h.elim
    | lg C' K' =>
      obtain ⟨rfl, h⟩ := h
      unfold PS.nxt
      dsimp only
      split
      · refine ⟨?_, ?_⟩
        · unfold Lg.doC; rw [lg_doE_perm h]
        · unfold Lg.doK; rw [lg_doE_perm h]
          split
          · exact Lg.newK_perm h
          · exact h
      · exact ⟨rfl, h⟩
    | sk C K => exact h.elim
  | sk C K => cases Q with
    | tx s' => exact h.elim
    | lg C' K' => exact h.elim
    | sk C' K' =>
      obtain ⟨rfl, h⟩ := h
      unfold PS.nxt
      dsimp only
      split
      · refine ⟨?_, ?_⟩
        · unfold Sk.doC; rw [sk_doE_perm h]
        · unfold Sk.doK; rw [sk_doE_perm h]
          split
          · exact sk_newK_perm h _
          · exact h
      · exact ⟨rfl, h⟩
/-- What is not done leaves all as it was. -/
theorem PS.none (P : PS) (o : OOp) (h : P.err o ≠ 0) : P.nxt o = P := by
  cases P with
  | tx s =>
    unfold PS.err at h
    unfold PS.nxt
    dsimp only at h ⊢
    by_cases ho : o.k = 1
    · rw [if_pos ho] at h ⊢
      have e : (Tx.dDo s o.tk o.ta o.ts o.tn).1 = s := by
        unfold Tx.dDo at h ⊢
        by_cases h1 : Tx.chk o.tk o.ta o.ts o.tn ≠ 0
        · rw [if_pos h1]
        · rw [if_neg h1] at h ⊢
          by_cases h2 : o.tk = 1
          · rw [if_pos h2] at h ⊢
            by_cases h3 : (s.size : Int) < o.ta
            · rw [if_pos h3]
            · rw [if_neg h3] at h ⊢
              by_cases h4 : 200 < (s.size : Int) + o.ts.size
              · rw [if_pos h4]
              · rw [if_neg h4] at h; exact absurd rfl h
          · rw [if_neg h2] at h ⊢
            by_cases h3 : (s.size : Int) < o.ta + o.tn
            · rw [if_pos h3]
            · rw [if_neg h3] at h; exact absurd rfl h
      rw [e]
    · rw [if_neg ho]
  | lg C K =>
    unfold PS.err at h
    unfold PS.nxt
    dsimp only at h ⊢
    by_cases ho : o.k = 2
    · rw [if_pos ho] at h ⊢
      unfold Lg.doC Lg.doK
      rw [if_neg h, if_neg h]
    · rw [if_neg ho]
  | sk C K =>
    unfold PS.err at h
    unfold PS.nxt
    dsimp only at h ⊢
    by_cases ho : o.k = 3
    · rw [if_pos ho] at h ⊢
      unfold Sk.doC Sk.doK
      rw [if_neg h, if_neg h]
    · rw [if_neg ho]
/-- A state that may be. -/
def PS.ok : PS → Prop
  | .tx s => s.size ≤ 200
  | .lg C K => Lg.Book C K ∧ Lg.sumK C K = 0
  | .sk C K => Sk.Good C K
theorem Ob.ok (h : Ob w0 w b m c P) : P.ok := by
  cases P with
  | tx s => exact h.2.2.1
  | lg C K => obtain ⟨n, h1, h2, _⟩ := h; exact ⟨h1.good, h2⟩
  | sk C K => obtain ⟨n, h1, _⟩ := h; exact h1.good
set_option maxHeartbeats 4000000 in
theorem onew_any (k : Nat) (hk : 1 ≤ k ∧ k ≤ 3) (w : World) : Calls Try.prog 12 #[.int .i64 (k : Int)] w fun e w' => ∃ b m, e = .returned (.iface (tyO k) (rv b)) ∧ Ob w w' b m 1 (PS.new k) ∧ Turn Nope w w' := by
  rcases (by omega : k = 1 ∨ k = 2 ∨ k = 3) with rfl | rfl | rfl
  · go_enter Try.func12, Try.ntmps12
    go_wp2_with fail
    refine (Tx.new_any w).mono ?_
    rintro e w1 ⟨g, rfl, h, hl, ht⟩
    have H := Lib.hid (And.intro h (And.intro hl ht))
    clear h hl ht
    go_wp2_with fail
    go_ret
    exact ⟨g, g, rfl, ⟨rfl, H.out.1, by show (0 : Nat) ≤ 200; omega, H.out.2.1⟩, H.out.2.2⟩
  · go_enter Try.func12, Try.ntmps12
    go_wp2_with fail
    refine (Lg.new_any w w (Turn.refl _ _)).mono ?_
    rintro e w1 ⟨s, mb, rfl, h, h1, h2, ht⟩
    have H := Lib.hid (And.intro h ht)
    clear h h1 h2 ht
    go_wp2_with fail
    go_ret
    exact ⟨s, mb, rfl, ⟨1, H.out.1, by decide, Nat.le_refl _⟩, H.out.2⟩
  · go_enter Try.func12, Try.ntmps12
    go_wp2_with fail
    refine (Sk.new_any w w (Turn.refl _ _)).mono ?_
    rintro e w1 ⟨s, mb, rfl, h, h1, h2, ht⟩
    have H := Lib.hid (And.intro h ht)
    clear h h1 h2 ht
    go_wp2_with fail
    go_ret
    exact ⟨s, mb, rfl, ⟨0, H.out.1, by omega⟩, H.out.2⟩
theorem onew_none (w : World) : Calls Try.prog 12 #[.int .i64 4] w fun e w' => e = .returned .nilIface ∧ w' = w := by
  go_enter Try.func12, Try.ntmps12
  go_wp2_with fail
  go_ret
  exact ⟨rfl, rfl⟩
set_option maxHeartbeats 4000000 in
theorem oload_any (P : PS) (hP : P.ok) (w : World) : Calls Try.prog 64 #[.int .i64 (P.kind : Int), .string P.saved] w fun e w' => ∃ b m Q, e = .returned (.tuple #[.iface (tyO P.kind) (rv b), .int .i64 0]) ∧ Ob w w' b m 40 Q ∧ P.eqv Q ∧ Turn Nope w w' := by
  cases P with
  | tx s =>
    have HP := Lib.hid hP
    clear hP
    show Calls Try.prog 64 #[.int .i64 1, .string (Tx.saved s)] _ _
    go_enter Try.func64, Try.ntmps64
    go_wp2_with fail
    refine (Tx.load_any s w HP.out).mono ?_
    rintro e w1 ⟨g, rfl, h, hl, ht⟩
    have H := Lib.hid (And.intro h (And.intro hl ht))
    clear h hl ht
    go_wp2_with fail
    go_ret2
    exact ⟨g, g, .tx s, rfl, ⟨rfl, H.out.1, HP.out, H.out.2.1⟩, rfl, H.out.2.2⟩
  | lg C K =>
    have HP := Lib.hid hP
    clear hP
    show Calls Try.prog 64 #[.int .i64 2, .string (Lg.savedS C K)] _ _
    go_enter Try.func64, Try.ntmps64
    go_wp2_with fail
    refine (Lg.load_any w HP.out.1 HP.out.2).mono ?_
    rintro e w1 ⟨s, mb, n, K', rfl, h, hp, hn, h1, h2, ht⟩
    have H := Lib.hid (And.intro h (And.intro hp (And.intro hn ht)))
    clear h hp hn h1 h2 ht
    go_wp2_with fail
    go_ret2
    exact ⟨s, mb, .lg C K', rfl, ⟨n, H.out.1, by rw [Lg.sum_perm C H.out.2.1]; exact HP.out.2, H.out.2.2.1⟩, ⟨rfl, H.out.2.1⟩, H.out.2.2.2⟩
  | sk C K =>
    have HP := Lib.hid hP
    clear hP
    show Calls Try.prog 64 #[.int .i64 3, .string (Sk.savedS C K)] _ _
    go_enter Try.func64, Try.ntmps64
    go_wp2_with fail
    refine (Sk.load_any w HP.out).mono ?_
    rintro e w1 ⟨s, mb, n, K', rfl, h, hn, h1, h2, ht⟩
    have H := Lib.hid (And.intro h (And.intro hn ht))
    clear h hn h1 h2 ht
    go_wp2_with fail
    go_ret2
    exact ⟨s, mb, .sk C K', rfl, ⟨n, H.out.1, by have := H.out.2.1; omega⟩, ⟨rfl, H.out.1.good.perm HP.out⟩, H.out.2.2⟩
set_option maxHeartbeats 4000000 in
theorem again_any (P : PS) (hP : P.ok) (w : World) : Calls Try.prog 63 #[.int .i64 (P.kind : Int), .string P.saved] w fun e w' => ∃ b m Q, e = .returned (.iface (tyO P.kind) (rv b)) ∧ Ob w w' b m 40 Q ∧ P.eqv Q ∧ Turn Nope w w' := by
  obtain ⟨k, hk⟩ : ∃ k : Int, (P.kind : Int) = k := ⟨_, rfl⟩
  obtain ⟨s, hs⟩ : ∃ s, P.saved = s := ⟨_, rfl⟩
  obtain ⟨T, hT⟩ : ∃ T, tyO P.kind = T := ⟨_, rfl⟩
  have HL := Lib.hid (oload_any P hP w)
  rw [hk, hs, hT] at HL
  rw [hk, hs, hT]
  clear hk hs hT hP
  go_enter Try.func63, Try.ntmps63
  go_wp2_with fail
  refine HL.out.mono ?_
  rintro e w1 ⟨b, m, Q, rfl, h, he, ht⟩
  have H := Lib.hid (And.intro h (And.intro he ht))
  clear h he ht HL
  go_wp2_with fail
  go_ret
  exact ⟨b, m, Q, rfl, H.out.1, H.out.2.1, H.out.2.2⟩
set_option maxHeartbeats 4000000 in
theorem oclone_any (h : Ob w0 w b m c P) : Calls Try.prog (fClone P.kind) #[rv b] w fun e w' => ∃ b' m' Q, e = .returned (.iface (tyO P.kind) (rv b')) ∧ Ob w w' b' m' 40 Q ∧ P.eqv Q ∧ Turn Nope w w' := by
  have HS := fun W (ht : Turn Nope w W) => osave_any (h.nope ht)
  have HA := fun W => again_any P h.ok W
  cases P with
  | tx s =>
    have H1 := Lib.hid (And.intro HS HA)
    clear HS HA h
    show Calls Try.prog 60 _ _ _
    go_enter Try.func60, Try.ntmps60
    go_wp2_with fail
    have T0 : Hid (Turn Nope w (w.alloc (.cells #[.pointer (some ⟨b, 0, none⟩)] 71))) := (Turn.refl _ _).alloc _
    generalize w.alloc (.cells #[.pointer (some ⟨b, 0, none⟩)] 71) = w1 at T0 ⊢
    refine (H1.out.1 _ T0.out).mono ?_
    rintro e w2 ⟨rfl, ht⟩
    have HT2 := Lib.hid (T0.out.trans ht)
    clear ht
    obtain ⟨s2, hs2⟩ : ∃ s2, (PS.tx s).saved = s2 := ⟨_, rfl⟩
    have HA2 := Lib.hid (H1.out.2 w2)
    rw [hs2] at HA2 ⊢
    clear H1 hs2
    go_wp2_with fail
    refine HA2.out.mono ?_
    rintro e w3 ⟨b', m', Q, rfl, h, he, ht⟩
    have H := Lib.hid (And.intro h (And.intro he ht))
    clear h he ht HA2
    go_wp2_with fail
    go_ret
    exact ⟨b', m', Q, rfl, H.out.1.low HT2.out.size, H.out.2.1, HT2.out.trans H.out.2.2⟩
  | lg C K =>
    have H1 := Lib.hid (And.intro HS HA)
    clear HS HA h
    show Calls Try.prog 105 _ _ _
    go_enter Try.func105, Try.ntmps105
    go_wp2_with fail
    have T0 : Hid (Turn Nope w (w.alloc (.cells #[.pointer (some ⟨b, 0, none⟩)] 75))) := (Turn.refl _ _).alloc _
    generalize w.alloc (.cells #[.pointer (some ⟨b, 0, none⟩)] 75) = w1 at T0 ⊢
    refine (H1.out.1 _ T0.out).mono ?_
    rintro e w2 ⟨rfl, ht⟩
    have HT2 := Lib.hid (T0.out.trans ht)
    clear ht
    obtain ⟨s2, hs2⟩ : ∃ s2, (PS.lg C K).saved = s2 := ⟨_, rfl⟩
    have HA2 := Lib.hid (H1.out.2 w2)
    rw [hs2] at HA2 ⊢
    clear H1 hs2
    go_wp2_with fail
    refine HA2.out.mono ?_
    rintro e w3 ⟨b', m', Q, rfl, h, he, ht⟩
    have H := Lib.hid (And.intro h (And.intro he ht))
    clear h he ht HA2
    go_wp2_with fail
    go_ret
    exact ⟨b', m', Q, rfl, H.out.1.low HT2.out.size, H.out.2.1, HT2.out.trans H.out.2.2⟩
  | sk C K =>
    have H1 := Lib.hid (And.intro HS HA)
    clear HS HA h
    show Calls Try.prog 111 _ _ _
    go_enter Try.func111, Try.ntmps111
    go_wp2_with fail
    have T0 : Hid (Turn Nope w (w.alloc (.cells #[.pointer (some ⟨b, 0, none⟩)] 79))) := (Turn.refl _ _).alloc _
    generalize w.alloc (.cells #[.pointer (some ⟨b, 0, none⟩)] 79) = w1 at T0 ⊢
    refine (H1.out.1 _ T0.out).mono ?_
    rintro e w2 ⟨rfl, ht⟩
    have HT2 := Lib.hid (T0.out.trans ht)
    clear ht
    obtain ⟨s2, hs2⟩ : ∃ s2, (PS.sk C K).saved = s2 := ⟨_, rfl⟩
    have HA2 := Lib.hid (H1.out.2 w2)
    rw [hs2] at HA2 ⊢
    clear H1 hs2
    go_wp2_with fail
    refine HA2.out.mono ?_
    rintro e w3 ⟨b', m', Q, rfl, h, he, ht⟩
    have H := Lib.hid (And.intro h (And.intro he ht))
    clear h he ht HA2
    go_wp2_with fail
    go_ret
    exact ⟨b', m', Q, rfl, H.out.1.low HT2.out.size, H.out.2.1, HT2.out.trans H.out.2.2⟩
end Go.Proofs.Yteggenihjhclkaa
