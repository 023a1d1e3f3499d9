/- What the law asks first: the walk of awake. -/
import Derived.Test.YtdojdhpfhjhmfaaSpick
import Derived.Test.YtdojdhpfhjhmfaaAgAdd
set_option maxRecDepth 16000
set_option linter.unusedVariables false
namespace Go.Proofs.Ytdojdhpfhjhmfaa
open Go.RowKit Go.Maps
variable {w0 w w' : World} {a mb n : Nat} {D : DataW Value} {V : Int → Value} {A : Int → List ByteArray}
theorem Okay.more {P : List Int} {t : Int} {l : List Thing} {n : Nat} (h : Okay P t l n) (p : Int) (hp : 0 ≤ p ∧ p ≤ 1048576) : Okay (P ++ [p]) t l n := by
  refine ⟨fun x hx => ?_, fun x hx => ?_, h.t0, h.t1, h.at0, h.at1⟩
  · rcases List.mem_append.1 hx with hx | hx
    · exact h.pace x hx
    · rw [List.mem_singleton.1 hx]; exact hp
  · obtain ⟨j, e, hj⟩ := h.who x hx
    exact ⟨j, e, by rw [List.length_append]; omega⟩
theorem okay_newT : ∀ (k : Nat) (P : List Int), P.length = k → (∀ p ∈ P, 0 ≤ p ∧ p ≤ 1048576) → Okay P 0 (newT P).2.1 (newT P).2.2
  | 0, P, hk, hP => by
    have : P = [] := List.length_eq_zero_iff.1 hk
    subst this
    exact Okay.new [] hP
  | k + 1, P, hk, hP => by
    rcases List.eq_nil_or_concat P with rfl | ⟨L, b, rfl⟩
    · cases hk
    · rw [List.concat_eq_append] at *
      have hL : L.length = k := by simpa using hk
      have ih := okay_newT k L hL fun p hp => hP p (List.mem_append_left _ hp)
      have hb := hP b (by simp)
      rw [newT_add, (newT_len L).1]
      exact (ih.more b hb).due (by rw [List.getElem?_append_right (Nat.le_refl _), Nat.sub_self]; rfl)
def newS (P : List Int) : Stt := ⟨0, (newT P).2.1, (newT P).2.2⟩
theorem sch_new (w : World) (Ad : Option Addr) (cap : Nat) (ps : List Int) (hA : NumsAt w Ad ps) (hps : ps.length ≤ 1000) :
    Calls Try.prog 10 #[.slice Ad ps.length cap] w fun e w' => ∃ s q pv, e = .returned (.pointer (some ⟨s, 0, none⟩)) ∧ Sch w w' s q pv (ps.map paceOf) (newS (ps.map paceOf)) := by
  refine (sb_new w Ad cap ps hA hps).mono ?_
  rintro e w' ⟨s, q, he, pv, h⟩
  refine ⟨s, q, pv, he, h, okay_newT _ _ rfl fun p hp => ?_⟩
  obtain ⟨x, _, rfl⟩ := List.mem_map.1 hp
  exact paceOf_in x
theorem Sch.base {w0 w1 w : World} {s q : Nat} {pv : Value} {P : List Int} {S : Stt} (h : Sch w1 w s q pv P S) (ht : Turn Nope w0 w1) : Sch w0 w s q pv P S := ⟨h.at_.base ht, h.ok⟩
/-- A map's block turns: a schedule stays. -/
theorem Sch.offMap {s q : Nat} {pv : Value} {P : List Int} {S : Stt} (h : Sch w0 w s q pv P S) (ht : Turn (At mb) w w') (hm : ∃ es c, w.heap[mb]? = some (.map es c)) (hb : w0.heap.size ≤ mb) : Sch w0 w' s q pv P S := by
  obtain ⟨es, c, hm⟩ := hm
  have h1 := h.at_
  obtain ⟨F, hq, h2, h3⟩ := h1.one
  have hF : ∀ k, F k → ¬ At mb k := fun k hk e => by
    have e : k = mb := e
    subst e
    exact hq.bad hm hk
  have hsm : ¬ At mb s := fun e => by
    have e : s = mb := e
    subst e
    rw [h1.hs] at hm; cases hm
  refine ⟨⟨⟨F, hq.keep ht hF, h2, h3.then ht fun k hk => .inr (by rw [show k = mb from hk]; exact hb)⟩, ht.blk h1.hs hsm, h1.new, own_turn h1.row ht fun k hk e => ?_⟩, h.ok⟩
  have e : k = mb := e
  subst e
  rcases h1.row.2 with ⟨rfl, _⟩ | ⟨g', cap, cur, rfl, _, hh, _⟩
  · simp [Value.ownBlock] at hk
  · have e : g' = k := by simpa [Value.ownBlock] using hk
    subst e
    rw [hm] at hh; cases hh
theorem Ag.isMap (h : Ag w0 w a mb n D V A) : ∃ es c, w.heap[mb]? = some (.map es c) := by
  obtain ⟨es, c, hb, _⟩ := h.map.1
  exact ⟨es, c, hb⟩
/-- A schedule's calls leave an agenda. -/
theorem Ag.ks (h : Ag w0 w a mb n D V A) (hk : Ks w w') (ht : Turn Nope w0 w') : Ag w0 w' a mb n D V A := by
  have hc : ∀ (g : Nat) (cells : Array Value), w.heap[g]? = some (Obj.cells cells 9 (0, 0)) → w'.heap[g]? = some (Obj.cells cells 9 (0, 0)) := fun g cells hg => hk.cells _ _ _ hg (by decide) (by decide) (by decide) (by decide)
  refine ⟨hk.cells _ _ _ h.ha (by decide) (by decide) (by decide) (by decide), h.newa, h.newm, ht, ⟨?_, h.map.2⟩, fun x hx => (h.rows x hx).keep hc⟩
  obtain ⟨es, clock, hb, F, hs, hD⟩ := h.map.1
  exact ⟨es, clock, hk.keep _ _ hb (fun h => h), F, hs, hD⟩
theorem nums23 (w : World) : NumsAt (w.alloc (.cells #[.int .i64 2, .int .i64 3] 3)) (some ⟨w.heap.size, 0, none⟩) [2, 3] := by
  intro j x hj
  refine ⟨_, rfl, ?_⟩
  have key : (⟨w.heap.size, 0, none⟩ : Addr).add j = ⟨w.heap.size, j, none⟩ := by unfold Addr.add; split <;> simp_all
  rw [key, blk_cell (blk_new w _)]
  match j, hj with
  | 0, hj => injection hj with hj; subst hj; rfl
  | 1, hj => injection hj with hj; subst hj; rfl
def S23 : Stt := ⟨6, [(8, 0), (9, 1)], 7⟩
theorem run23 : runT [2, 3] 5 (newS [2, 3]) = ([0, 1, 0, 1, 0], S23) := by rfl
set_option maxHeartbeats 8000000 in
theorem awake_any (w : World) : Calls Try.prog 8 #[] w fun e w' => e = .returned (.bool true) ∧ Turn Nope w w' := by
  have hps : (List.map paceOf [2, 3]) = [2, 3] := by decide
  have HPS := Lib.hid hps
  have HN := Lib.hid (nums23 w)
  clear hps
  go_enter Try.func8, Try.ntmps8
  go_wp2_with fail
  refine (sch_new _ _ 2 [2, 3] HN.out (by decide)).mono ?_
  rintro e w1 ⟨s, q, pv, rfl, h1⟩
  rw [HPS.out] at h1
  have H1 := Lib.hid (h1.base ((Turn.refl Nope w).alloc _))
  clear h1
  go_wp2_with fail
  refine (ag_new w w1 H1.out.turn).mono ?_
  rintro e w2 ⟨a, mb, rfl, h2, ht2⟩
  have H2 := Lib.hid h2
  have HS2 := Lib.hid (H1.out.nope ht2)
  clear h2 ht2
  have c0 := blk_cell HS2.out.at_.hs 0
  simp only [List.getElem?_toArray, List.getElem?_cons_zero] at c0
  go_wp2_with fail
  refine (sch_picks HS2.out (by decide) (by decide) 5 5 (by decide) (by decide)).mono ?_
  rintro e w3 ⟨v3, rfl, hr3, hs3, hk3⟩
  rw [run23] at hr3 hs3
  obtain ⟨g3, c3, rfl, _⟩ := World.ownsRow.form hr3 (by decide)
  have HR3 := Lib.hid hr3
  have HS3 := Lib.hid hs3
  have HA3 := Lib.hid (H2.out.ks hk3 HS3.out.turn)
  clear hr3 hs3 hk3 c0
  go_wp2_with fail
  refine (ag_add (HA3.out.nope ((Turn.refl _ _).alloc _)) (by decide) (x := 1) (by decide) ⟨w3.heap.size, 0, none⟩ 2 2 [⟨#[120]⟩, ⟨#[121]⟩] rfl (by decide) (by decide) (by decide) (fun j s hj => ?_)).mono ?_
  · have key : (⟨w3.heap.size, 0, none⟩ : Addr).add j = ⟨w3.heap.size, j, none⟩ := by unfold Addr.add; split <;> simp_all
    rw [key, blk_cell (blk_new w3 _)]
    match j, hj with
    | 0, hj => injection hj with hj; subst hj; rfl
    | 1, hj => injection hj with hj; subst hj; rfl
  rintro e w4 ⟨rfl, ⟨D4, V4, h4⟩, ht4⟩
  have HA4 := Lib.hid h4
  have HT4 := Lib.hid ht4
  have HS4 := Lib.hid ((HS3.out.nope ((Turn.refl _ _).alloc _)).offMap ht4 (HA3.out.nope ((Turn.refl _ _).alloc _)).isMap HA3.out.newm)
  clear h4 ht4
  go_wp2_with fail
  refine (ag_take_some HA4.out (by decide) (x := 1) (by decide) (s := ⟨#[120]⟩) (l := [⟨#[121]⟩]) rfl (by decide)).mono ?_
  rintro e w5 ⟨rfl, ⟨D5, V5, h5⟩, ht5⟩
  have HA5 := Lib.hid h5
  have HS5 := Lib.hid (HS4.out.offMap ht5 HA4.out.isMap HA4.out.newm)
  have HR5 : Hid (w5.ownsRow w2.heap.size 3 1 (.slice (some ⟨g3, 0, none⟩) 5 c3) 5 (whoI [0, 1, 0, 1, 0])) := by
    have h1 := own_nope HR3.out (w' := w3.alloc (.cells #[.string ⟨#[120]⟩, .string ⟨#[121]⟩] 9)) ((Turn.refl _ _).alloc _)
    have hm : ∀ {W : World} {b c : Nat} {es : Array MapEntry} {xs : List Value} {n : Nat}, W.heap[mb]? = some (.map es c) → W.ownsRow b 3 1 (.slice (some ⟨g3, 0, none⟩) 5 c3) n xs → ∀ k, (Value.slice (some ⟨g3, 0, none⟩) 5 c3).ownBlock = some k → ¬ At mb k := by
      intro W b c es xs n hmm ho k hk e
      have e : k = mb := e
      subst e
      rcases ho.2 with ⟨h, _⟩ | ⟨g', cap, cur, h, _, hh, _⟩
      · cases h
      · injection h with h _ _
        injection h with h
        injection h with h
        subst h
        have e : g3 = k := by simpa [Value.ownBlock] using hk
        subst e
        rw [hmm] at hh; cases hh
    obtain ⟨es, c, e1⟩ := (HA3.out.nope (w' := w3.alloc (.cells #[.string ⟨#[120]⟩, .string ⟨#[121]⟩] 9)) ((Turn.refl _ _).alloc _)).isMap
    have h2 := own_turn h1 HT4.out (hm e1 h1)
    obtain ⟨es, c, e2⟩ := HA4.out.isMap
    exact own_turn h2 ht5 (hm e2 h2)
  clear h5 ht5
  have r0 := own_elem HR5.out 0 (u := .int .i64 0) rfl
  have r1 := own_elem HR5.out 1 (u := .int .i64 1) rfl
  have r2 := own_elem HR5.out 2 (u := .int .i64 0) rfl
  have r3 := own_elem HR5.out 3 (u := .int .i64 1) rfl
  have r4 := own_elem HR5.out 4 (u := .int .i64 0) rfl
  go_wp2_with (first | (go_at_call 12; refine (sb_tick HS5.out.at_).mono ?_; rintro e w6 ⟨rfl, rfl⟩) | (go_at_call 25; refine (ag_left HA5.out (x := 1) (by decide)).mono ?_; rintro e w7 ⟨rfl, rfl⟩))
  go_ret
  exact ⟨rfl, HS5.out.turn⟩
end Go.Proofs.Ytdojdhpfhjhmfaa
