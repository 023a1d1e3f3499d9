/- The next so many turns, plain, and the walk of Picks. -/
import Derived.Test.YtdojdhpfhjhmfaaSset
set_option maxRecDepth 16000
set_option linter.unusedVariables false
namespace Go.Proofs.Ytdojdhpfhjhmfaa
open Go.RowKit
/-- What all schedules keep to: paces, whose things, when. -/
structure Okay (P : List Int) (t : Int) (l : List Thing) (n : Nat) : Prop where
  pace : ∀ p ∈ P, 0 ≤ p ∧ p ≤ 1048576
  who : ∀ x ∈ l, ∃ j : Nat, x.2 = (j : Int) ∧ j < P.length
  t0 : 0 ≤ t
  t1 : t ≤ (n : Int) * 1048576
  at0 : ∀ x ∈ l, t ≤ x.1
  at1 : ∀ x ∈ l, x.1 ≤ (n : Int) * 1048576
theorem Okay.new (P : List Int) (h : ∀ p ∈ P, 0 ≤ p ∧ p ≤ 1048576) : Okay P 0 [] 0 := ⟨h, (fun _ h => by cases h), Int.le_refl _, by simp, (fun _ h => by cases h), (fun _ h => by cases h)⟩
theorem mem_insR {x y : Thing} {l : List Thing} (h : y ∈ insR x l) : y = x ∨ y ∈ l := List.mem_cons.1 ((insR_perm x l).mem_iff.1 h)
theorem Okay.due {P : List Int} {t : Int} {l : List Thing} {n j : Nat} {p : Int} (h : Okay P t l n) (hp : P[j]? = some p) : Okay P t (dueL t p j l) (dueN p n) := by
  have hj : j < P.length := (List.getElem?_eq_some_iff.1 hp).1
  have h1 := h.pace p (List.mem_of_getElem? hp)
  have h2 := h.t0
  have h3 := h.t1
  unfold dueL dueN
  split
  · refine ⟨h.pace, fun x hx => ?_, h.t0, by omega, fun x hx => ?_, fun x hx => ?_⟩
    · rcases mem_insR hx with rfl | hx
      · exact ⟨j, rfl, hj⟩
      · exact h.who x hx
    · rcases mem_insR hx with rfl | hx
      · show t ≤ t + p; omega
      · exact h.at0 x hx
    · rcases mem_insR hx with rfl | hx
      · show t + p ≤ _; omega
      · have := h.at1 x hx; omega
  · exact h
theorem Okay.take {P : List Int} {t t1 w1 : Int} {l : List Thing} {n : Nat} (h : Okay P t ((t1, w1) :: l) n) (hr : Rises ((t1, w1) :: l)) : Okay P t1 l n := by
  have h1 := List.pairwise_cons.1 hr
  have h2 := h.at0 _ List.mem_cons_self
  have h3 := h.at1 _ List.mem_cons_self
  refine ⟨h.pace, fun x hx => h.who x (List.mem_cons_of_mem _ hx), ?_, h3, fun x hx => h1.1 x hx, fun x hx => h.at1 x (List.mem_cons_of_mem _ hx)⟩
  have := h.t0
  have : t ≤ t1 := h2
  omega
theorem Okay.drop {P : List Int} {t : Int} {l : List Thing} {n : Nat} (h : Okay P t l n) (who : Int) : Okay P t (notOfT who l) n :=
  ⟨h.pace, fun x hx => h.who x (List.mem_filter.1 hx).1, h.t0, h.t1, fun x hx => h.at0 x (List.mem_filter.1 hx).1, fun x hx => h.at1 x (List.mem_filter.1 hx).1⟩
theorem Okay.set {P : List Int} {t : Int} {l : List Thing} {n : Nat} (h : Okay P t l n) (j : Nat) (p : Int) (hp : 0 ≤ p ∧ p ≤ 1048576) : Okay (P.set j p) t l n := by
  refine ⟨fun x hx => ?_, fun x hx => ?_, h.t0, h.t1, h.at0, h.at1⟩
  · rcases List.mem_or_eq_of_mem_set hx with hx | rfl
    · exact h.pace x hx
    · exact hp
  · obtain ⟨j', e, hj⟩ := h.who x hx
    exact ⟨j', e, by rw [List.length_set]; exact hj⟩
/-- A schedule's state: the tick, what is due, how many were added. -/
structure Stt where
  t : Int
  l : List Thing
  n : Nat
def paceAt (P : List Int) (who : Int) : Int := P.getD who.toNat 0
def stepT (P : List Int) (S : Stt) : Option (Int × Stt) :=
  match S.l with
  | [] => none
  | (t1, who) :: l => some (who, ⟨t1, dueL t1 (paceAt P who) who.toNat l, dueN (paceAt P who) S.n⟩)
def runT (P : List Int) : Nat → Stt → List Int × Stt
  | 0, S => ([], S)
  | k + 1, S => match stepT P S with
    | none => ([], S)
    | some (who, S') => let r := runT P k S'; (who :: r.1, r.2)
/-- A row of one's own beside a schedule grows. -/
theorem SB.growR {w0 w w' : World} {s q n m b : Nat} {pv v : Value} {P : List Int} {t : Int} {l : List Thing} {xs : List Value} (h : SB w0 w s q pv P t l n) (hg : w.grownBy w' v.ownBlock)
    (hr : w.ownsRow b 3 1 v m xs) (hne : ∀ k, v.ownBlock = some k → pv.ownBlock ≠ some k) (hb : w0.heap.size ≤ b) : SB w0 w' s q pv P t l n := by
  have ht6 : Turn (OfRow v) w w' := (Turn.refl _ _).grown hg fun k hk => .inl hk
  obtain ⟨F, hq, h1, h2⟩ := h.one
  have hq6 := hq.keep ht6 fun k hk hk' => hq.row hr (by decide) (by decide) (by decide) k hk' hk
  refine ⟨⟨F, hq6, h1, h2.growR hg hr hb⟩, blk_grown h.hs hg (fun e => own_ne hr h.hs (by decide) s e rfl), h.new, ?_⟩
  exact own_turn h.row ht6 fun k hk hk' => hne k hk' hk
/-- A schedule as it lies there. -/
structure Sch (w0 w : World) (s q : Nat) (pv : Value) (P : List Int) (S : Stt) : Prop where
  at_ : SB w0 w s q pv P S.t S.l S.n
  ok : Okay P S.t S.l S.n
theorem Sch.turn {w0 w : World} {s q : Nat} {pv : Value} {P : List Int} {S : Stt} (h : Sch w0 w s q pv P S) : Turn Nope w0 w := h.at_.turn
theorem Sch.nope {w0 w w' : World} {s q : Nat} {pv : Value} {P : List Int} {S : Stt} (h : Sch w0 w s q pv P S) (ht : Turn Nope w w') : Sch w0 w' s q pv P S := by
  exact ⟨h.at_.nope ht, h.ok⟩
theorem Sch.rises {w0 w : World} {s q : Nat} {pv : Value} {P : List Int} {S : Stt} (h : Sch w0 w s q pv P S) : Rises S.l := h.at_.one.rises
theorem stepT_bd {P : List Int} {S S' : Stt} {who : Int} (h : stepT P S = some (who, S')) : S'.l.length ≤ S.l.length ∧ S'.n ≤ S.n + 1 := by
  unfold stepT at h
  rcases hS : S.l with _ | ⟨⟨t1, u⟩, l⟩
  · rw [hS] at h; cases h
  · rw [hS] at h
    injection h with h
    injection h with h1 h2
    subst h2
    have := dueL_len t1 (paceAt P u) u.toNat l
    have := dueN_le (paceAt P u) S.n
    constructor
    · show (dueL t1 (paceAt P u) u.toNat l).length ≤ _
      simp only [List.length_cons]; omega
    · exact this
theorem okay_step {P : List Int} {S S' : Stt} {who : Int} (h : Okay P S.t S.l S.n) (hr : Rises S.l) (hs : stepT P S = some (who, S')) : Okay P S'.t S'.l S'.n ∧ S.t ≤ S'.t ∧ ∃ j : Nat, who = (j : Int) ∧ j < P.length := by
  unfold stepT at hs
  rcases hS : S.l with _ | ⟨⟨t1, u⟩, l⟩
  · rw [hS] at hs; cases hs
  · rw [hS] at hs h hr
    injection hs with hs
    injection hs with h1 h2
    subst h2; subst h1
    obtain ⟨j, e, hj⟩ := h.who _ List.mem_cons_self
    have e : u = (j : Int) := e
    subst e
    have hp : P[(j : Int).toNat]? = some (paceAt P (j : Int)) := by
      unfold paceAt
      rw [Int.toNat_natCast, List.getD_eq_getElem?_getD, List.getElem?_eq_getElem hj]; rfl
    exact ⟨(h.take hr).due hp, h.at0 _ List.mem_cons_self, j, rfl, hj⟩
theorem runT_bd (P : List Int) : ∀ (k : Nat) (S : Stt), (runT P k S).2.l.length ≤ S.l.length ∧ (runT P k S).2.n ≤ S.n + k ∧ (runT P k S).1.length ≤ k
  | 0, S => ⟨Nat.le_refl _, Nat.le_refl _, Nat.le_refl _⟩
  | k + 1, S => by
    unfold runT
    cases hs : stepT P S with
    | none => exact ⟨Nat.le_refl _, by show S.n ≤ _; omega, Nat.zero_le _⟩
    | some r =>
      obtain ⟨who, S'⟩ := r
      have h1 := stepT_bd hs
      have h2 := runT_bd P k S'
      refine ⟨Nat.le_trans h2.1 h1.1, ?_, ?_⟩
      · show (runT P k S').2.n ≤ _; omega
      · show (who :: (runT P k S').1).length ≤ _; simp only [List.length_cons]; omega
theorem runT_none {P : List Int} {S : Stt} (h : stepT P S = none) : ∀ k, runT P k S = ([], S)
  | 0 => rfl
  | k + 1 => by unfold runT; rw [h]
theorem runT_snoc (P : List Int) : ∀ (k : Nat) (S : Stt), runT P (k + 1) S = match stepT P (runT P k S).2 with
    | none => runT P k S
    | some (who, S') => ((runT P k S).1 ++ [who], S')
  | 0, S => by
    show runT P 1 S = _
    unfold runT
    show _ = match stepT P S with | none => _ | some (who, S') => _
    cases hs : stepT P S with
    | none => rfl
    | some r => obtain ⟨who, S'⟩ := r; rfl
  | k + 1, S => by
    cases hs : stepT P S with
    | none => rw [runT_none hs, runT_none hs]; show _ = match stepT P S with | none => _ | some (who, S') => _; rw [hs]
    | some r =>
      obtain ⟨who, S'⟩ := r
      have ih := runT_snoc P k S'
      have e1 : ∀ m, runT P (m + 1) S = (who :: (runT P m S').1, (runT P m S').2) := fun m => by
        rw [runT, hs]
      rw [e1 (k + 1), e1 k, ih]
      show _ = match stepT P (runT P k S').2 with | none => _ | some (who, S') => _
      cases stepT P (runT P k S').2 with
      | none => rfl
      | some r => obtain ⟨u, S2⟩ := r; rfl
theorem runT_len {P : List Int} {S' : Stt} {who : Int} : ∀ (k : Nat) (S : Stt), stepT P (runT P k S).2 = some (who, S') → (runT P k S).1.length = k
  | 0, S, _ => rfl
  | k + 1, S, h => by
    cases hs : stepT P S with
    | none => rw [runT_none hs] at h; rw [show stepT P ([], S).2 = stepT P S from rfl, hs] at h; cases h
    | some r =>
      obtain ⟨u, S2⟩ := r
      have e1 : runT P (k + 1) S = (u :: (runT P k S2).1, (runT P k S2).2) := by rw [runT, hs]
      rw [e1] at h ⊢
      have := runT_len k S2 h
      simp only [List.length_cons]; omega
theorem runT_stop {P : List Int} {S : Stt} {i : Nat} (h : stepT P (runT P i S).2 = none) : ∀ d, runT P (i + d) S = runT P i S
  | 0 => rfl
  | d + 1 => by
    have ih := runT_stop h d
    rw [← Nat.add_assoc, runT_snoc, ih, h]
theorem okay_run {P : List Int} (hst : ∀ {S S' : Stt} {who : Int}, stepT P S = some (who, S') → Rises S.l → Rises S'.l) : ∀ (k : Nat) (S : Stt), Okay P S.t S.l S.n → Rises S.l → Okay P (runT P k S).2.t (runT P k S).2.l (runT P k S).2.n ∧ S.t ≤ (runT P k S).2.t ∧ Rises (runT P k S).2.l
  | 0, S, h, hr => ⟨h, Int.le_refl _, hr⟩
  | k + 1, S, h, hr => by
    cases hs : stepT P S with
    | none => rw [runT_none hs]; exact ⟨h, Int.le_refl _, hr⟩
    | some r =>
      obtain ⟨who, S'⟩ := r
      have h1 := okay_step h hr hs
      have h2 := okay_run hst k S' h1.1 (hst hs hr)
      have e1 : runT P (k + 1) S = (who :: (runT P k S').1, (runT P k S').2) := by rw [runT, hs]
      rw [e1]
      exact ⟨h2.1, Int.le_trans h1.2.1 h2.2.1, h2.2.2⟩
theorem sch_next_none {w0 w : World} {s q : Nat} {pv : Value} {P : List Int} {S : Stt} (h : Sch w0 w s q pv P S) (hs : stepT P S = none) :
    Calls Try.prog 11 #[.pointer (some ⟨s, 0, none⟩)] w fun e w' => e = .returned (.tuple #[.int .i64 0, .bool false]) ∧ w = w' := by
  have h1 := h.at_
  rcases hS : S.l with _ | ⟨⟨t1, u⟩, l⟩
  · rw [hS] at h1
    exact sb_next_none h1
  · unfold stepT at hs
    rw [hS] at hs; cases hs
theorem sch_next_some {w0 w : World} {s q : Nat} {pv : Value} {P : List Int} {S S' : Stt} {who : Int} (h : Sch w0 w s q pv P S) (hl : S.l.length ≤ 999) (hn : S.n ≤ 900000) (hs : stepT P S = some (who, S')) :
    Calls Try.prog 11 #[.pointer (some ⟨s, 0, none⟩)] w fun e w' => e = .returned (.tuple #[.int .i64 who, .bool true]) ∧ Sch w0 w' s q pv P S' ∧ Ks w w' := by
  have hok := (okay_step h.ok h.rises hs).1
  have hook := h.ok
  have h1 := h.at_
  unfold stepT at hs
  rcases hS : S.l with _ | ⟨⟨t1, u⟩, l⟩
  · rw [hS] at hs; cases hs
  · rw [hS] at hs h1 hook hl
    injection hs with hs
    injection hs with h2 h3
    subst h3; subst h2
    obtain ⟨j, e, hj⟩ := hook.who _ List.mem_cons_self
    have e : u = (j : Int) := e
    subst e
    have hp : P[j]? = some (paceAt P (j : Int)) := by
      unfold paceAt
      rw [Int.toNat_natCast, List.getD_eq_getElem?_getD, List.getElem?_eq_getElem hj]; rfl
    have h4 := hook.pace _ (List.mem_of_getElem? hp)
    have h5 := hook.at1 _ List.mem_cons_self
    have h6 := hook.at0 _ List.mem_cons_self
    have h7 := hook.t0
    have h5 : t1 ≤ (S.n : Int) * 1048576 := h5
    have h6 : S.t ≤ t1 := h6
    simp only [List.length_cons] at hl
    refine (sb_next_some h1 (by omega) (by omega) hp h4.1 h4.2 (by omega) (by omega)).mono ?_
    rintro e w' ⟨he, h8, hk⟩
    refine ⟨he, ⟨?_, hok⟩, hk⟩
    show SB w0 w' s q pv P t1 (dueL t1 (paceAt P (j : Int)) (j : Int).toNat l) (dueN (paceAt P (j : Int)) S.n)
    rw [Int.toNat_natCast]
    exact h8
/-- The next turn's whose, in memory. -/
def whoI (L : List Int) : List Value := L.map fun x => Value.int .i64 x
attribute [local go_sem] lib_max2 lib_max_two
set_option maxHeartbeats 4000000 in
theorem sch_picks {w0 w : World} {s q : Nat} {pv : Value} {P : List Int} {S : Stt} (h : Sch w0 w s q pv P S) (hl : S.l.length ≤ 999) (hn : S.n ≤ 800000) (m : Int) (k : Nat) (hm : (if m < 0 then 0 else m) = (k : Int)) (hk : k ≤ 1000) :
    Calls Try.prog 20 #[.pointer (some ⟨s, 0, none⟩), .int .i64 m] w fun e w' => ∃ v, e = .returned v ∧ w'.ownsRow w.heap.size 3 1 v (runT P k S).1.length (whoI (runT P k S).1) ∧ Sch w0 w' s q pv P (runT P k S).2 ∧ Ks w w' := by
  have HS := Lib.hid h
  have HPV : Hid (∀ k, pv.ownBlock = some k → k < w.heap.size) := fun k hk => (World.ownsRow.lt h.at_.row k hk).2
  have HT0 : Hid (w0.heap.size ≤ w.heap.size) := h.at_.turn.size
  clear h
  obtain ⟨i3, hi3, hz3, hs3, hb3⟩ := info_parts Try.info3
  have I3 := Lib.hid (And.intro hi3 (And.intro hz3 (And.intro hs3 hb3)))
  clear hi3 hz3 hs3 hb3
  go_enter Try.func20, Try.ntmps20
  go_wp2_with fail
  go_loopg [5, 10] k (fun kk u5 v10 wr => ∃ (i : Nat), v10 = .int .i64 (i : Int) ∧ Hid (kk + i = k) ∧ Hid (wr.ownsRow w.heap.size 3 1 u5 i (whoI (runT P i S).1) ∧ Sch w0 wr s q pv P (runT P i S).2 ∧ Ks w wr ∧ w.heap.size ≤ wr.heap.size ∧ (runT P i S).1.length = i))
  case atStart => exact ⟨0, rfl, rfl, ⟨⟨rfl, .inl ⟨rfl, rfl⟩⟩, HS.out, Ks.refl _, Nat.le_refl _, rfl⟩⟩
  case round =>
    obtain ⟨i, rfl, hi, hR⟩ := hrel
    clear HS
    have HSN := Lib.hid (runT_snoc P i S)
    have hbd := runT_bd P i S
    have HBD := Lib.hid hbd
    clear hbd
    by_cases hlt : i < k
    · have b1 : decide ((i : Int) < (k : Int)) = true := by simp; omega
      have b1n : decide (i < k) = true := by simp; omega
      have hw : wrap64 ((i : Int) + 1) = (i : Int) + 1 := IntWalk.wrap64_in _ ⟨by omega, by omega⟩
      have HW := Lib.hid hw
      clear hw
      cases hs : stepT P (runT P i S).2 with
      | none =>
        have HK : Hid (runT P k S = runT P i S) := by
          have := runT_stop hs (k - i)
          rw [show i + (k - i) = k by omega] at this
          exact this
        have HST := Lib.hid hs
        clear hs
        go_wp2_with fail
        refine (sch_next_none hR.out.2.1 HST.out).mono ?_
        rintro e w1 ⟨rfl, rfl⟩
        go_wp2_with fail
        go_ret
        refine ⟨_, rfl, ?_⟩
        rw [HK.out, hR.out.2.2.2.2]
        exact ⟨hR.out.1, hR.out.2.1, hR.out.2.2.1⟩
      | some r =>
        obtain ⟨who, S'⟩ := r
        have hn1 := HSN.out
        rw [hs] at hn1
        have HN1 : Hid (runT P (i + 1) S = ((runT P i S).1 ++ [who], S')) := hn1
        have HST := Lib.hid hs
        clear hs hn1 HSN
        go_wp2_with fail
        refine (sch_next_some hR.out.2.1 (by have := HBD.out.1; omega) (by have := HBD.out.2.1; omega) HST.out).mono ?_
        rintro e w1 ⟨rfl, h1, hk1⟩
        have H1 := Lib.hid h1
        have HK1 := Lib.hid hk1
        have HR1 : Hid (w1.ownsRow w.heap.size 3 1 u5 i (whoI (runT P i S).1)) := hk1.row hR.out.1 (by decide) (by decide) (by decide) (by decide)
        have HZ1 : Hid (w.heap.size ≤ w1.heap.size) := Nat.le_trans hR.out.2.2.2.1 hk1.size
        clear h1 hk1
        have hw := HW.out
        go_wp2_with (first
          | (at_builtin; refine wpList_append_lies _ rfl _ _ _ rfl w.heap.size 3 i3 _ 1 8 Try.underlying22 I3.out.1 I3.out.2.1 I3.out.2.2.1 I3.out.2.2.2 rfl (by omega) u5 i (whoI (runT P i S).1) rfl (own_nope HR1.out ((Turn.refl _ _).alloc _)) ⟨w1.heap.size, 0, none⟩ 1 1 [.int .i64 who] rfl rfl (news_new w1 _ 3) (by intro u hu; simp at hu; subst hu; rfl) (by omega) (by show i + 1 ≤ 9223372036854775807; omega) (by omega) (Nat.le_trans HZ1.out (by simp)) (w1.heap.size + 1) (by simp) ?_; intro g1 cap1 w6 hown hgr hat hlt2; have HO6 := Lib.hid hown; have HG6 := Lib.hid hgr; have HA6 := Lib.hid hat; clear hown hgr hat hlt2))
        have HB1 : Hid (Sch w0 (w1.alloc (.cells #[.int .i64 who] 3)) s q pv P S') := H1.out.nope ((Turn.refl _ _).alloc _)
        have HS6 : Hid (Sch w0 w6 s q pv P S' ∧ Ks w w6) := by
          have hr1 : (w1.alloc (.cells #[.int .i64 who] 3)).ownsRow w.heap.size 3 1 u5 i (whoI (runT P i S).1) := own_nope HR1.out ((Turn.refl _ _).alloc _)
          refine ⟨⟨HB1.out.at_.growR HG6.out hr1 (fun k hk e => ?_) HT0.out, HB1.out.ok⟩, ?_⟩
          · have := own_base hr1 k hk
            have := HPV.out k e
            omega
          · refine ⟨Nat.le_trans HZ1.out (Nat.le_trans (by simp) HG6.out.size), fun g o hg hb => ?_⟩
            have h2 : (w1.alloc (.cells #[.int .i64 who] 3)).heap[g]? = some o := blk_alloc (HK1.out.keep g o (hR.out.2.2.1.keep g o hg hb) hb) _
            refine blk_grown h2 HG6.out fun e => ?_
            have h3 := own_base hr1 g e
            have := blk_lt hg
            omega
        go_roundg (k - (i + 1))
        case measure => have := hi.out; omega
        case rel =>
          refine ⟨i + 1, by have := HW.out; go_num, by have := hi.out; show _ = _; omega, ?_⟩
          have e1 : (runT P (i + 1) S).1 = (runT P i S).1 ++ [who] := by rw [HN1.out]
          refine ⟨?_, by rw [HN1.out]; exact HS6.out.1, HS6.out.2, Nat.le_trans HZ1.out (Nat.le_trans (by simp) HG6.out.size), ?_⟩
          · rw [e1]
            have h1 := HO6.out
            unfold whoI at *
            rw [List.map_append]
            exact h1
          · rw [e1, List.length_append, hR.out.2.2.2.2]; rfl
    · have HF := Lib.hid (show i = k by have := hi.out; omega)
      have b1 : decide ((i : Int) < (k : Int)) = false := by simp; omega
      have b1n : decide (i < k) = false := by simp; omega
      clear hlt
      go_wp2_with fail
      go_ret
      refine ⟨_, rfl, ?_⟩
      rw [← HF.out, hR.out.2.2.2.2]
      exact ⟨hR.out.1, hR.out.2.1, hR.out.2.2.1⟩
end Go.Proofs.Ytdojdhpfhjhmfaa
