/- APART: the walk of LedgerApart. -/
import Derived.Test.YtlalbmgopbcplaaTch
import Derived.Deep.RegionHeld3
import Derived.Deep.RegionLaw
import Derived.Deep.RegionWith
set_option maxRecDepth 16000
set_option linter.unusedVariables false
set_option linter.unusedSimpArgs false
namespace Go.Proofs.Ytlalbmgopbcplaa
open Go.RowKit Go.Maps
variable {C : Nm → Int} {K : List Nm} {w0 w w' : World} {s mb n : Nat} {D : Dm} {o p q : Op4}
/-- It goes on, with frame A, in a world of which R holds. -/
def AtN (A : Act) (R : World → Prop) : Exit → Act → World → Prop
  | .normal, a, w => a = A ∧ R w
  | _, _, _ => False
theorem AtN.use {A : Act} {R : World → Prop} {Q : Exit → Act → World → Prop} (h : ∀ w, R w → Q .normal A w) : ∀ e a w, AtN A R e a w → Q e a w := by
  intro e a w h1
  cases e <;> first | exact False.elim h1 | (obtain ⟨rfl, h2⟩ := h1; exact h w h2)
/-- A block that is an op's. -/
def OpB (W : World) (b : Nat) (k : Int) (S T : ByteArray) (n : Int) : Prop := W.heap[b]? = some (.cells #[.int .i64 k, .string S, .string T, .int .i64 n] 29 (0, 0))
theorem OpB.cells {W : World} {b : Nat} {k n : Int} {S T : ByteArray} (h : OpB W b k S T n) :
    (W.cell? ⟨b, 0, none⟩ = some (.int .i64 k) ∧ W.cell? ⟨b, 1, none⟩ = some (.string S) ∧ W.cell? ⟨b, 2, none⟩ = some (.string T) ∧ W.cell? ⟨b, 3, none⟩ = some (.int .i64 n)) ∧
    W.frozen? ⟨b, 0, none⟩ = false ∧ W.frozen? ⟨b, 1, none⟩ = false ∧ W.frozen? ⟨b, 2, none⟩ = false ∧ W.frozen? ⟨b, 3, none⟩ = false :=
  ⟨⟨by rw [blk_cell h]; rfl, by rw [blk_cell h]; rfl, by rw [blk_cell h]; rfl, by rw [blk_cell h]; rfl⟩, blk_frozen h 0, blk_frozen h 1, blk_frozen h 2, blk_frozen h 3⟩
theorem OpB.store {W : World} {b : Nat} {k n k' n' : Int} {S T S' T' : ByteArray} (h : OpB W b k S T n) :
    OpB ((((W.setCell ⟨b, 0, none⟩ (.int .i64 k')).setCell ⟨b, 1, none⟩ (.string S')).setCell ⟨b, 2, none⟩ (.string T')).setCell ⟨b, 3, none⟩ (.int .i64 n')) b k' S' T' n' := by
  have h1 := blk_set (blk_set (blk_set (blk_set h 0 (.int .i64 k')) 1 (.string S')) 2 (.string T')) 3 (.int .i64 n')
  simpa [OpB] using h1
theorem OpB.far {W : World} {b c : Nat} {k n k' n' : Int} {S T S' T' : ByteArray} (h : OpB W b k S T n) (hne : b ≠ c) :
    OpB ((((W.setCell ⟨c, 0, none⟩ (.int .i64 k')).setCell ⟨c, 1, none⟩ (.string S')).setCell ⟨c, 2, none⟩ (.string T')).setCell ⟨c, 3, none⟩ (.int .i64 n')) b k S T n :=
  blk_far (blk_far (blk_far (blk_far h hne _) hne _) hne _) hne _
theorem OpB.turn {S0 : Nat → Prop} {W W' : World} {b : Nat} {k n : Int} {S T : ByteArray} (h : OpB W b k S T n) (ht : Turn S0 W W') (hb : ¬ S0 b) : OpB W' b k S T n := ht.blk h hb
/-- Both ops in their boxes. -/
structure Bx (w W : World) (b c : Nat) (k1 : Int) (S1 T1 : ByteArray) (n1 k2 : Int) (S2 T2 : ByteArray) (n2 : Int) : Prop where
  p : OpB W b k1 S1 T1 n1
  q : OpB W c k2 S2 T2 n2
  ne : b ≠ c
  lo : w.heap.size ≤ b ∧ w.heap.size ≤ c
  tn : Turn Nope w W
variable {W W' : World} {b c : Nat} {k1 n1 k2 n2 : Int} {S1 T1 S2 T2 : ByteArray}
theorem Bx.nope (h : Bx w W b c k1 S1 T1 n1 k2 S2 T2 n2) (ht : Turn Nope W W') : Bx w W' b c k1 S1 T1 n1 k2 S2 T2 n2 :=
  ⟨h.p.turn ht fun h => h, h.q.turn ht fun h => h, h.ne, h.lo, h.tn.trans ht⟩
theorem Bx.both {k1' n1' k2' n2' : Int} {S1' T1' S2' T2' : ByteArray} (h : Bx w W b c k1 S1 T1 n1 k2 S2 T2 n2) :
    Bx w ((((((((W.setCell ⟨b, 0, none⟩ (.int .i64 k1')).setCell ⟨b, 1, none⟩ (.string S1')).setCell ⟨b, 2, none⟩ (.string T1')).setCell ⟨b, 3, none⟩ (.int .i64 n1')).setCell ⟨c, 0, none⟩ (.int .i64 k2')).setCell ⟨c, 1, none⟩ (.string S2')).setCell ⟨c, 2, none⟩ (.string T2')).setCell ⟨c, 3, none⟩ (.int .i64 n2')) b c k1' S1' T1' n1' k2' S2' T2' n2' :=
  ⟨(OpB.store h.p).far h.ne, OpB.store (OpB.far h.q h.ne.symm), h.ne, h.lo, (((((((h.tn.setCell (.inr h.lo.1) _).setCell (.inr h.lo.1) _).setCell (.inr h.lo.1) _).setCell (.inr h.lo.1) _).setCell (.inr h.lo.2) _).setCell (.inr h.lo.2) _).setCell (.inr h.lo.2) _).setCell (.inr h.lo.2) _⟩
theorem Bx.both2 {k1' n1' k2' n2' : Int} {S1' T1' S2' T2' : ByteArray} (h : Bx w W b c k1 S1 T1 n1 k2 S2 T2 n2) :
    Bx w ((((((((W.setCell ⟨c, 0, none⟩ (.int .i64 k2')).setCell ⟨c, 1, none⟩ (.string S2')).setCell ⟨c, 2, none⟩ (.string T2')).setCell ⟨c, 3, none⟩ (.int .i64 n2')).setCell ⟨b, 0, none⟩ (.int .i64 k1')).setCell ⟨b, 1, none⟩ (.string S1')).setCell ⟨b, 2, none⟩ (.string T1')).setCell ⟨b, 3, none⟩ (.int .i64 n1')) b c k1' S1' T1' n1' k2' S2' T2' n2' :=
  ⟨OpB.store (OpB.far h.p h.ne), (OpB.store h.q).far h.ne.symm, h.ne, h.lo, (((((((h.tn.setCell (.inr h.lo.2) _).setCell (.inr h.lo.2) _).setCell (.inr h.lo.2) _).setCell (.inr h.lo.2) _).setCell (.inr h.lo.1) _).setCell (.inr h.lo.1) _).setCell (.inr h.lo.1) _).setCell (.inr h.lo.1) _⟩
theorem Bx.at (h : Bx w W b c k1 S1 T1 n1 k2 S2 T2 n2) {m : Nat} {es : Array MapEntry} {clock : Nat} (hm : W.heap[m]? = some (.map es clock)) (hlo : w.heap.size ≤ m) (ht : Turn (At m) W W') : Bx w W' b c k1 S1 T1 n1 k2 S2 T2 n2 := by
  refine ⟨h.p.turn ht fun e => ?_, h.q.turn ht fun e => ?_, h.ne, h.lo, h.tn.then ht fun k hk => .inr (by rw [show k = m from hk]; exact hlo)⟩
  · have e : b = m := e
    have := h.p
    unfold OpB at this
    rw [e, hm] at this; cases this
  · have e : c = m := e
    have := h.q
    unfold OpB at this
    rw [e, hm] at this; cases this
theorem open_t29 {H : Type} {enc : TypeId × Value → H} {w : World} {cs : Array Value} {d : DataW H} {p : List MemPlace} (hcs : cs.size = Try.prog.cellsOf 29) (h : DataW.Trod enc Try.prog w 0 (fun _ => true) true 29 (.agg cs) d p) :
    ∃ (k : Int) (S T : ByteArray) (n : Int), cs = #[.int .i64 k, .string S, .string T, .int .i64 n] ∧ S.size ≤ maxLen ∧ T.size ≤ maxLen := by
  obtain ⟨n, ht⟩ := h
  have hc : Try.prog.cellsOf 29 = 4 := by kernel_rfl
  obtain ⟨l, rfl⟩ : ∃ l : List Value, cs = l.toArray := ⟨cs.toList, by simp⟩
  have hl : l.length = 4 := by simpa [hc] using hcs
  obtain ⟨xs, n', _, _, _, hxl, hf⟩ := DataW.trod_struct Try.underlying29 ht
  have hxl4 : xs.length = 4 := hxl
  match l, hl with
  | [c0, c1, c2, c3], _ =>
    have h3 : Try.prog.cellsOf 3 = 1 := by kernel_rfl
    have h9 : Try.prog.cellsOf 9 = 1 := by kernel_rfl
    have f0 : DataW.trod enc Try.prog w 0 (fun _ => true) true n' 3 [c0] = xs[0]? := (show ((([c0, c1, c2, c3] : List Value).drop 0).take (Try.prog.cellsOf 3)) = [c0] by rw [h3]; rfl) ▸ hf 0 _ rfl
    have f1 : DataW.trod enc Try.prog w 0 (fun _ => true) true n' 9 [c1] = xs[1]? := (show ((([c0, c1, c2, c3] : List Value).drop 1).take (Try.prog.cellsOf 9)) = [c1] by rw [h9]; rfl) ▸ hf 1 _ rfl
    have f2 : DataW.trod enc Try.prog w 0 (fun _ => true) true n' 9 [c2] = xs[2]? := (show ((([c0, c1, c2, c3] : List Value).drop 2).take (Try.prog.cellsOf 9)) = [c2] by rw [h9]; rfl) ▸ hf 2 _ rfl
    have f3 : DataW.trod enc Try.prog w 0 (fun _ => true) true n' 3 [c3] = xs[3]? := (show ((([c0, c1, c2, c3] : List Value).drop 3).take (Try.prog.cellsOf 3)) = [c3] by rw [h3]; rfl) ▸ hf 3 _ rfl
    obtain ⟨k, rfl, _⟩ := leaf_int Try.underlying3 f0 (by omega)
    obtain ⟨S, rfl, hS⟩ := leaf_str Try.underlying9 f1 (by omega)
    obtain ⟨T, rfl, hT⟩ := leaf_str Try.underlying9 f2 (by omega)
    obtain ⟨n, rfl, _⟩ := leaf_int Try.underlying3 f3 (by omega)
    exact ⟨k, S, T, n, rfl, hS, hT⟩
/-- Two books, and both ops in their boxes. -/
structure PQ (w W : World) (b c : Nat) (k1 : Int) (S1 T1 : ByteArray) (n1 k2 : Int) (S2 T2 : ByteArray) (n2 : Int) (s mb n s2 mb2 m : Nat) (C1 : Nm → Int) (K1 : List Nm) (C2 : Nm → Int) (K2 : List Nm) : Prop where
  bx : Bx w W b c k1 S1 T1 n1 k2 S2 T2 n2
  x : Sh w W s mb n C1 K1
  y : Sh w W s2 mb2 m C2 K2
  ne : s ≠ mb2 ∧ mb ≠ mb2 ∧ s2 ≠ mb
variable {s2 mb2 m : Nat} {C1 C2 : Nm → Int} {K1 K2 : List Nm}
theorem PQ.nope (h : PQ w W b c k1 S1 T1 n1 k2 S2 T2 n2 s mb n s2 mb2 m C1 K1 C2 K2) (ht : Turn Nope W W') : PQ w W' b c k1 S1 T1 n1 k2 S2 T2 n2 s mb n s2 mb2 m C1 K1 C2 K2 :=
  ⟨h.bx.nope ht, h.x.nope ht, h.y.nope ht, h.ne⟩
theorem PQ.onX {C1' : Nm → Int} {K1' : List Nm} {n' : Nat} (h : PQ w W b c k1 S1 T1 n1 k2 S2 T2 n2 s mb n s2 mb2 m C1 K1 C2 K2) (ht : Turn (At mb) W W') (hs : Sh w W' s mb n' C1' K1') : PQ w W' b c k1 S1 T1 n1 k2 S2 T2 n2 s mb n' s2 mb2 m C1' K1' C2 K2 := by
  obtain ⟨es, clock, hb⟩ := h.x.mblk
  exact ⟨h.bx.at hb h.x.lom ht, hs, h.y.turn ht (fun e => h.ne.2.2 e) (fun e => h.ne.2.1 (show mb2 = mb from e).symm), h.ne⟩
theorem PQ.onY {C2' : Nm → Int} {K2' : List Nm} {n' : Nat} (h : PQ w W b c k1 S1 T1 n1 k2 S2 T2 n2 s mb n s2 mb2 m C1 K1 C2 K2) (ht : Turn (At mb2) W W') (hs : Sh w W' s2 mb2 n' C2' K2') : PQ w W' b c k1 S1 T1 n1 k2 S2 T2 n2 s mb n s2 mb2 n' C1 K1 C2' K2' := by
  obtain ⟨es, clock, hb⟩ := h.y.mblk
  exact ⟨h.bx.at hb h.y.lom ht, h.x.turn ht (fun e => h.ne.1 e) (fun e => h.ne.2.1 e), hs, h.ne⟩
/-- One book, and both ops. -/
structure P1 (w W : World) (b c : Nat) (k1 : Int) (S1 T1 : ByteArray) (n1 k2 : Int) (S2 T2 : ByteArray) (n2 : Int) (s mb n : Nat) (C : Nm → Int) (K : List Nm) : Prop where
  bx : Bx w W b c k1 S1 T1 n1 k2 S2 T2 n2
  x : Sh w W s mb n C K
  sm : sumK C K = 0
theorem P1.nope (h : P1 w W b c k1 S1 T1 n1 k2 S2 T2 n2 s mb n C K) (ht : Turn Nope W W') : P1 w W' b c k1 S1 T1 n1 k2 S2 T2 n2 s mb n C K := ⟨h.bx.nope ht, h.x.nope ht, h.sm⟩
theorem P1.did (h : P1 w W b c k1 S1 T1 n1 k2 S2 T2 n2 s mb n C K) (ht : Turn (At mb) W W') (hs : Sh w W' s mb (n + 2) (doC C K o) (doK C K o)) : P1 w W' b c k1 S1 T1 n1 k2 S2 T2 n2 s mb (n + 2) (doC C K o) (doK C K o) := by
  obtain ⟨es, clock, hb⟩ := h.x.mblk
  exact ⟨h.bx.at hb h.x.lom ht, hs, sum_did h.x.good h.sm⟩
theorem Sh.low {w1 : World} (h : Sh w1 W s mb n C K) (hl : w.heap.size ≤ w1.heap.size) : Sh w W s mb n C K := ⟨h.hs, Nat.le_trans hl h.los, Nat.le_trans hl h.lom, h.map, h.good, h.house⟩
theorem arr_enc (x : ByteArray) : encStr (nmOf x) = .string x := by unfold encStr nmOf; simp
set_option maxHeartbeats 32000000 in
theorem apart_walk (p : Option Addr) (len cap : Nat) (k1 : Int) (S1 T1 : ByteArray) (n1 k2 : Int) (S2 T2 : ByteArray) (n2 : Int) (w : World) (hin : OpsIn w p len) :
    Calls Try.prog 4 #[.slice p len cap, .agg #[.int .i64 k1, .string S1, .string T1, .int .i64 n1], .agg #[.int .i64 k2, .string S2, .string T2, .int .i64 n2]] w fun e w' => e = .returned (.bool true) ∧ Below w.heap.size w w' := by
  have HIN := Lib.hid hin
  clear hin
  go_enter Try.func4, Try.ntmps4
  go_wp2_with fail
  have HX0 : Hid (Bx w ((w.alloc (.cells #[.int .i64 k1, .string S1, .string T1, .int .i64 n1] 29)).alloc (.cells #[.int .i64 k2, .string S2, .string T2, .int .i64 n2] 29)) w.heap.size (w.heap.size + 1) k1 S1 T1 n1 k2 S2 T2 n2) := by
    refine ⟨blk_alloc (blk_new _ _) _, ?_, by omega, ⟨by omega, by omega⟩, ((Turn.refl _ _).alloc _).alloc _⟩
    have := blk_new (w.alloc (.cells #[.int .i64 k1, .string S1, .string T1, .int .i64 n1] 29)) (.cells #[.int .i64 k2, .string S2, .string T2, .int .i64 n2] 29)
    simpa [OpB] using this
  obtain ⟨b, hb⟩ : ∃ b, w.heap.size = b := ⟨_, rfl⟩
  have HLO : Hid (w.heap.size = b) := hb
  rw [hb] at HX0 ⊢
  obtain ⟨c, hc⟩ : ∃ c, b + 1 = c := ⟨_, rfl⟩
  rw [hc] at HX0 ⊢
  clear hb hc
  refine (awake_any _).mono ?_
  rintro e w1 ⟨rfl, ht⟩
  have HX1 := Lib.hid (HX0.out.nope ht)
  clear ht HX0
  go_wp2_with fail
  have SAT : Hid (∀ W, Bx w W b c k1 S1 T1 n1 k2 S2 T2 n2 → ((W.cell? ⟨b, 0, none⟩ = some (.int .i64 k1) ∧ W.cell? ⟨b, 1, none⟩ = some (.string S1) ∧ W.cell? ⟨b, 2, none⟩ = some (.string T1) ∧ W.cell? ⟨b, 3, none⟩ = some (.int .i64 n1)) ∧
    W.frozen? ⟨b, 0, none⟩ = false ∧ W.frozen? ⟨b, 1, none⟩ = false ∧ W.frozen? ⟨b, 2, none⟩ = false ∧ W.frozen? ⟨b, 3, none⟩ = false) ∧ ((W.cell? ⟨c, 0, none⟩ = some (.int .i64 k2) ∧ W.cell? ⟨c, 1, none⟩ = some (.string S2) ∧ W.cell? ⟨c, 2, none⟩ = some (.string T2) ∧ W.cell? ⟨c, 3, none⟩ = some (.int .i64 n2)) ∧
    W.frozen? ⟨c, 0, none⟩ = false ∧ W.frozen? ⟨c, 1, none⟩ = false ∧ W.frozen? ⟨c, 2, none⟩ = false ∧ W.frozen? ⟨c, 3, none⟩ = false)) := fun W R => ⟨R.p.cells, R.q.cells⟩
  have hbc : b ≠ c := HX1.out.ne
  have hcb : c ≠ b := fun e => hbc e.symm
  apply Code.wp_mono (Q := AtN _ (fun w' => Bx w w' b c k1 (cutP S1 14) (cutP T1 14) n1 k2 (cutP S2 14) (cutP T2 14) n2))
  rotate_left
  · skip
    obtain ⟨⟨⟨p0, p1, p2, p3⟩, f0, f1, f2, f3⟩, ⟨q0, q1, q2, q3⟩, g0, g1, g2, g3⟩ := SAT.out w1.drew (HX1.out.nope (Turn.refl _ _).drew)
    go_region_with (first
      | (go_at_call 9; refine (few_any _ _ _ _ _).mono ?_; rintro e w5 ⟨rfl, ht⟩; have HM5 := Lib.hid (HX1.out.nope (((Turn.refl _ _).drew).trans ht)); clear ht; clear p0 p1 p2 p3 f0 f1 f2 f3 q0 q1 q2 q3 g0 g1 g2 g3; obtain ⟨⟨⟨p0, p1, p2, p3⟩, f0, f1, f2, f3⟩, ⟨q0, q1, q2, q3⟩, g0, g1, g2, g3⟩ := SAT.out _ HM5.out)
      | (go_at_call 9; refine (few_any _ _ _ _ _).mono ?_; rintro e w6 ⟨rfl, ht⟩; have HM6 := Lib.hid (HM5.out.nope ht); clear ht; clear p0 p1 p2 p3 f0 f1 f2 f3 q0 q1 q2 q3 g0 g1 g2 g3; obtain ⟨⟨⟨p0, p1, p2, p3⟩, f0, f1, f2, f3⟩, ⟨q0, q1, q2, q3⟩, g0, g1, g2, g3⟩ := SAT.out _ HM6.out))
    all_goals (refine ⟨rfl, ?_⟩)
    all_goals first | exact HM6.out.both | exact HM6.out.both2
  · skip
    refine AtN.use ?_
    intro w2 HX2
    have HX2 := Lib.hid HX2
    clear SAT HX1 hbc hcb
    obtain ⟨PP, hPP⟩ : ∃ x, cutP S1 14 = x := ⟨_, rfl⟩
    obtain ⟨P2, hP2⟩ : ∃ x, cutP T1 14 = x := ⟨_, rfl⟩
    obtain ⟨Q1, hQ1⟩ : ∃ x, cutP S2 14 = x := ⟨_, rfl⟩
    obtain ⟨Q2, hQ2⟩ : ∃ x, cutP T2 14 = x := ⟨_, rfl⟩
    have HSZ : Hid (PP.size ≤ 14 ∧ P2.size ≤ 14 ∧ Q1.size ≤ 14 ∧ Q2.size ≤ 14) := by rw [← hPP, ← hP2, ← hQ1, ← hQ2]; exact ⟨cutP_size _ _, cutP_size _ _, cutP_size _ _, cutP_size _ _⟩
    rw [hPP, hP2, hQ1, hQ2] at HX2
    clear hPP hP2 hQ1 hQ2
    obtain ⟨p0, p1, p2, p3⟩ := HX2.out.p.cells.1
    go_wp2_with fail
    refine (touches_any k1 n1 PP P2 _).mono ?_
    rintro e w3 ⟨v, rfl, hrow, ht⟩
    obtain ⟨A1, cap1, rfl, hc1⟩ := own_slice hrow
    obtain ⟨L1, hL1⟩ : ∃ x, tch (nmOf PP) (nmOf P2) 2 = x := ⟨_, rfl⟩
    obtain ⟨L2, hL2⟩ : ∃ x, tch (nmOf Q1) (nmOf Q2) 2 = x := ⟨_, rfl⟩
    have HL := Lib.hid (And.intro hL1 hL2)
    have HLL : Hid (L1.length ≤ 2 ∧ L2.length ≤ 2) := by rw [← hL1, ← hL2]; exact ⟨tch_len _ _ _, tch_len _ _ _⟩
    have HSM : Hid ((∀ x ∈ L1, x.length ≤ 14) ∧ ∀ x ∈ L2, x.length ≤ 14) := by
      rw [← hL1, ← hL2]
      refine ⟨fun x hx => ?_, fun x hx => ?_⟩
      · rcases ((tch_mem _ _ _).1 hx).1 with e | e <;> rw [e, nm_len]
        · exact HSZ.out.1
        · exact HSZ.out.2.1
      · rcases ((tch_mem _ _ _).1 hx).1 with e | e <;> rw [e, nm_len]
        · exact HSZ.out.2.2.1
        · exact HSZ.out.2.2.2
    rw [hL1] at hrow hc1 ⊢
    have HR3 := Lib.hid (own_lower (b' := w.heap.size) hrow HX2.out.tn.size)
    have HX3 := Lib.hid (HX2.out.nope ht)
    have HC1 := Lib.hid hc1
    clear hrow hc1 hL1 hL2 ht p0 p1 p2 p3 HX2
    go_wp2_with fail
    go_loopg [27] L1.length (fun k v27 wr => ∃ i : Nat, v27 = .int .i64 (i : Int) ∧ Hid (k + i = L1.length ∧ ∀ x ∈ L1.take i, ∀ y ∈ L2, x ≠ y) ∧ Hid (Bx w wr b c k1 PP P2 n1 k2 Q1 Q2 n2 ∧ wr.ownsRow w.heap.size 9 1 (.slice A1 L1.length cap1) L1.length (encs L1)))
    case atStart => exact ⟨0, rfl, ⟨rfl, fun x hx => by simp at hx⟩, HX3.out, HR3.out⟩
    case round =>
      obtain ⟨i, rfl, hk, hW⟩ := hrel
      clear HX3 HR3
      by_cases hlt : i < L1.length
      · have b1 : decide ((i : Int) < (L1.length : Int)) = true := by simp; omega
        have b1n : decide (i < L1.length) = true := by simp; omega
        have i0 : (0 : Int) ≤ (i : Int) := by omega
        have i1 : (i : Int) < (L1.length : Int) := by omega
        have hcc := HC1.out
        have i2 : (i : Int) < (cap1 : Int) := by omega
        have hw : wrap64 ((i : Int) + 1) = (i : Int) + 1 := IntWalk.wrap64_in _ ⟨by omega, by have := HLL.out.1; omega⟩
        have HWR := Lib.hid hw
        have HI := Lib.hid hlt
        obtain ⟨x, hx⟩ : ∃ x, L1[i]? = some x := ⟨_, List.getElem?_eq_getElem hlt⟩
        have HXI := Lib.hid hx
        obtain ⟨g1, rfl⟩ := own_form hW.out.2 (by omega)
        have c0 : wr.cell? ⟨g1, i, none⟩ = some (.string ⟨x.toArray⟩) := own_elem hW.out.2 i (u := encStr x) (by simp [encs, hx])
        obtain ⟨q0, q1, q2, q3⟩ := hW.out.1.q.cells.1
        clear hlt hw hx hcc
        go_wp2_with fail
        refine (touches_any k2 n2 Q1 Q2 _).mono ?_
        rintro e w4 ⟨v, rfl, hrow, ht⟩
        obtain ⟨A2, cap2, rfl, hc2⟩ := own_slice hrow
        rw [HL.out.2] at hrow hc2 ⊢
        have HR4 := Lib.hid (own_lower (b' := w.heap.size) hrow hW.out.1.tn.size)
        have HX4 := Lib.hid (hW.out.1.nope ht)
        have HR5 := Lib.hid (own_nope hW.out.2 ht)
        have HC2 := Lib.hid hc2
        clear hrow hc2 ht q0 q1 q2 q3 c0 i0 i1 i2 b1 b1n hW
        go_wp2_with fail
        go_loopg [34] L2.length (fun kk v34 wq => ∃ j : Nat, v34 = .int .i64 (j : Int) ∧ Hid (kk + j = L2.length ∧ ∀ y ∈ L2.take j, x ≠ y) ∧ Hid (Bx w wq b c k1 PP P2 n1 k2 Q1 Q2 n2 ∧ wq.ownsRow w.heap.size 9 1 (.slice (some ⟨g1, 0, none⟩) L1.length cap1) L1.length (encs L1) ∧ wq.ownsRow w.heap.size 9 1 (.slice A2 L2.length cap2) L2.length (encs L2)))
        case atStart => exact ⟨0, rfl, ⟨rfl, fun y hy => by simp at hy⟩, HX4.out, HR5.out, HR4.out⟩
        case round =>
          obtain ⟨j, rfl, hkj, hWj⟩ := hrel
          clear HX4 HR4 HR5
          by_cases hltj : j < L2.length
          · have b1 : decide ((j : Int) < (L2.length : Int)) = true := by simp; omega
            have b1n : decide (j < L2.length) = true := by simp; omega
            have i0 : (0 : Int) ≤ (j : Int) := by omega
            have i1 : (j : Int) < (L2.length : Int) := by omega
            have hcc := HC2.out
            have i2 : (j : Int) < (cap2 : Int) := by omega
            have hw : wrap64 ((j : Int) + 1) = (j : Int) + 1 := IntWalk.wrap64_in _ ⟨by omega, by have := HLL.out.2; omega⟩
            have HWJ := Lib.hid hw
            have HJ := Lib.hid hltj
            obtain ⟨y, hy⟩ : ∃ y, L2[j]? = some y := ⟨_, List.getElem?_eq_getElem hltj⟩
            have HYI := Lib.hid hy
            obtain ⟨g2, rfl⟩ := own_form hWj.out.2.2 (by omega)
            have c0 : wr.cell? ⟨g2, j, none⟩ = some (.string ⟨y.toArray⟩) := own_elem hWj.out.2.2 j (u := encStr y) (by simp [encs, hy])
            clear hltj hw hy hcc
            by_cases hxy : x = y
            · have z0 : (x == y) = true := by simpa using hxy
              clear hxy
              go_wp2_with fail
              go_ret
              exact ⟨rfl, hWj.out.1.tn.nopeBelow⟩
            · have z0 : (x == y) = false := by simpa using hxy
              have HXY := Lib.hid hxy
              clear hxy
              go_wp2_with fail
              have hw := HWJ.out
              go_wp2_with fail
              go_roundg (L2.length - (j + 1))
              case measure => have := hkj.out.1; have := HJ.out; omega
              case rel =>
                refine ⟨j + 1, by go_num, ⟨by have := hkj.out.1; have := HJ.out; omega, fun z hz => ?_⟩, hWj.out⟩
                rw [List.take_add_one, HYI.out, List.mem_append] at hz
                rcases hz with hz | hz
                · exact hkj.out.2 z hz
                · simp at hz; rw [hz]; exact HXY.out
          · have b1 : decide ((j : Int) < (L2.length : Int)) = false := by simp; omega
            have b1n : decide (j < L2.length) = false := by simp; omega
            have HALL : Hid (∀ y ∈ L2, x ≠ y) := fun y hy => hkj.out.2 y (by rw [List.take_of_length_le (by omega)]; exact hy)
            clear hltj
            go_wp2_with fail
            have hw := HWR.out
            go_wp2_with fail
            go_roundg (L1.length - (i + 1))
            case measure => have := hk.out.1; have := HI.out; omega
            case rel =>
              refine ⟨i + 1, by go_num, ⟨by have := hk.out.1; have := HI.out; omega, fun z hz => ?_⟩, hWj.out.1, hWj.out.2.1⟩
              rw [List.take_add_one, HXI.out, List.mem_append] at hz
              rcases hz with hz | hz
              · exact hk.out.2 z hz
              · simp at hz; rw [hz]; exact HALL.out
      · have b1 : decide ((i : Int) < (L1.length : Int)) = false := by simp; omega
        have b1n : decide (i < L1.length) = false := by simp; omega
        have HFAR : Hid (Far ⟨k1, nmOf PP, nmOf P2, n1⟩ ⟨k2, nmOf Q1, nmOf Q2, n2⟩) := by
          show ∀ x ∈ tch (nmOf PP) (nmOf P2) 2, ∀ y ∈ tch (nmOf Q1) (nmOf Q2) 2, x ≠ y
          rw [HL.out.1, HL.out.2]
          exact fun x hx => hk.out.2 x (by rw [List.take_of_length_le (by omega)]; exact hx)
        have HX3 := Lib.hid hW.out.1
        clear hlt hk hW HL HLL HSM HC1
        go_wp2_with fail
        refine (new_any w wr HX3.out.tn).mono ?_
        rintro e w5 ⟨s, mb, rfl, hs, h1, h2, ht⟩
        have HP0 : Hid (P1 w w5 b c k1 PP P2 n1 k2 Q1 Q2 n2 s mb 1 (fun _ => 0) [[]]) := ⟨HX3.out.nope ht, hs, by decide⟩
        clear hs h1 h2 ht HX3
        go_upto_region 15 with fail
        go_upto_block 4 with fail
        go_cut [12] from 44 to 60 (fun v12 wr => ∃ (n : Nat) (C : Nm → Int) (KL : List Nm), Hid (n ≤ 61 ∧ P1 w wr b c k1 PP P2 n1 k2 Q1 Q2 n2 s mb n C KL))
        case first =>
          go_wp2_with fail
          go_loopg [12] 30 (fun k v12 wr => ∃ (i : Nat) (C : Nm → Int) (KL : List Nm), v12 = .int .i64 (i : Int) ∧ Hid (k + i = 30) ∧ Hid (P1 w wr b c k1 PP P2 n1 k2 Q1 Q2 n2 s mb (1 + 2 * i) C KL))
          case atStart => exact ⟨0, _, _, rfl, rfl, HP0.out⟩
          case round =>
            obtain ⟨j, C, KL, rfl, hj, HP⟩ := hrel
            clear HP0
            have hw : wrap64 ((j : Int) + 1) = (j : Int) + 1 := IntWalk.wrap64_in _ ⟨by have := hj.out; omega, by have := hj.out; omega⟩
            have HWR := Lib.hid hw
            clear hw
            by_cases hlt : j < len
            · have b1 : decide ((j : Int) < (len : Int)) = true := by simp; omega
              have b1n : decide (j < len) = true := by simp; omega
              by_cases h14 : j < 30
              · have b2 : decide ((j : Int) < 30) = true := by simp; omega
                have b2n : decide (j < 30) = true := by simp; omega
                obtain ⟨ad, k, S9, U9, N, rfl, hS1, c0, c1, c2, c3⟩ := (HIN.out.later HP.out.bx.tn.nopeBelow).2 j hlt
                have i0 : (0 : Int) ≤ (j : Int) := by omega
                have i1 : (j : Int) < (len : Int) := by omega
                have HJ := Lib.hid h14
                clear hlt h14 hS1
                go_wp2_with fail
                refine (few_any k S9 U9 N _).mono ?_
                rintro e w4 ⟨rfl, ht⟩
                have HP4 := Lib.hid (HP.out.nope ht)
                have HSS := Lib.hid (And.intro (cutP_size S9 14) (cutP_size U9 14))
                clear ht c0 c1 c2 c3
                go_wp2_with fail
                refine (do_any HP4.out.x (by have := HJ.out; omega) k N (cutP S9 14) (cutP U9 14) (by have := HSS.out; unfold maxLen; omega) (by have := HSS.out; unfold maxLen; omega)).mono ?_
                rintro e w5 ⟨rfl, hs, ht⟩
                have HP5 := Lib.hid (HP4.out.did ht hs)
                clear hs ht
                obtain ⟨E, hE⟩ : ∃ E, doE C KL ⟨k, nmOf (cutP S9 14), nmOf (cutP U9 14), N⟩ = E := ⟨_, rfl⟩
                rw [hE]
                clear hE
                go_wp2_with fail
                have hw := HWR.out
                go_wp2_with fail
                go_roundg (30 - (j + 1))
                case measure => have := hj.out; have := HJ.out; omega
                case rel => exact ⟨j + 1, _, _, by go_num, by have := hj.out; have := HJ.out; show _ = _; omega, HP5.out⟩
              · have b2 : decide ((j : Int) < 30) = false := by simp; omega
                have b2n : decide (j < 30) = false := by simp; omega
                have hj14 : 1 + 2 * j ≤ 61 := by have := hj.out; omega
                clear hlt h14
                go_wp2_with fail
                go_meet
                exact ⟨_, C, KL, hj14, HP.out⟩
            · have b1 : decide ((j : Int) < (len : Int)) = false := by simp; omega
              have b1n : decide (j < len) = false := by simp; omega
              have hj14 : 1 + 2 * j ≤ 61 := by have := hj.out; omega
              clear hlt
              go_wp2_with fail
              go_meet
              exact ⟨_, C, KL, hj14, HP.out⟩
        case rest =>
          obtain ⟨n, C, KL, hn⟩ := hcut
          clear HP0
          go_wp2_with fail
          refine (save_any hn.out.2.x).mono ?_
          rintro e w6 ⟨rfl, ht⟩
          have HP6 := Lib.hid (hn.out.2.nope ht)
          have HN := Lib.hid hn.out.1
          clear ht hn
          obtain ⟨was, hwas⟩ : ∃ was, savedS C KL = was := ⟨_, rfl⟩
          have HWAS := Lib.hid hwas
          rw [hwas]
          clear hwas
          go_wp2_with fail
          rw [← HWAS.out]
          refine (load_any w6 HP6.out.x.good HP6.out.sm).mono ?_
          rintro e w7 ⟨s2, mb2, m2, K2, rfl, hs2, hpm2, hn2, hls2, hlm2, ht⟩
          have HP7 := Lib.hid (HP6.out.nope ht)
          have HB7 : Hid (Sh w w7 s2 mb2 m2 C K2 ∧ K2.Perm KL ∧ m2 ≤ 40) := ⟨hs2.low HP6.out.bx.tn.size, hpm2, hn2⟩
          clear hs2 hpm2 hn2 hls2 hlm2 ht HP6
          rw [HWAS.out]
          go_wp2_with fail
          rw [← HWAS.out]
          refine (load_any w7 HP7.out.x.good HP7.out.sm).mono ?_
          rintro e w8 ⟨s3, mb3, m3, K3, rfl, hs3, hpm3, hn3, hls3, hlm3, ht⟩
          have HP8 := Lib.hid (HP7.out.nope ht)
          have HQ8 : Hid (PQ w w8 b c k1 PP P2 n1 k2 Q1 Q2 n2 s2 mb2 m2 s3 mb3 m3 C K2 C K3) := by
            obtain ⟨es, clock, hb⟩ := HB7.out.1.mblk
            have h1 := blk_lt HB7.out.1.hs
            have h2 := blk_lt hb
            exact ⟨HP8.out.bx, HB7.out.1.nope ht, hs3.low HP7.out.bx.tn.size, ⟨by omega, by omega, by omega⟩⟩
          have HKK : Hid (K2.Perm KL ∧ K3.Perm KL ∧ m2 ≤ 40 ∧ m3 ≤ 40) := ⟨HB7.out.2.1, hpm3, HB7.out.2.2, hn3⟩
          have HG := Lib.hid HP8.out.x.good
          have HQ11' : Hid (Book C K2 ∧ Book C K3) := ⟨HQ8.out.x.good, HQ8.out.y.good⟩
          clear hs3 hpm3 hn3 hls3 hlm3 ht HP7 HB7 HWAS
          go_wp2_with fail
          refine (names_any HP8.out.x).mono ?_
          rintro e w9 ⟨v, rfl, hv, ht⟩
          obtain ⟨A9, c9, g9, cap9, rfl, -⟩ := hv
          have HQ9 := Lib.hid (HQ8.out.nope ht)
          obtain ⟨q, hq⟩ : ∃ q, (accs KL).length = q := ⟨_, rfl⟩
          have HQL := Lib.hid hq
          rw [hq]
          clear ht hq HQ8 HP8
          by_cases h14 : 14 < q
          · have b1 : decide ((14 : Int) < (q : Int)) = true := by simp; omega
            have b1n : decide (14 < q) = true := by simp; omega
            clear h14
            go_wp2_with fail
            go_ret
            exact ⟨rfl, HQ9.out.bx.tn.nopeBelow⟩
          · have b1 : decide ((14 : Int) < (q : Int)) = false := by simp; omega
            have b1n : decide (14 < q) = false := by simp; omega
            have HK15 : Hid (KL.length ≤ 15) := by have h1 := accs_length HG.out.house; have h2 := HQL.out; exact (by omega : KL.length ≤ 15)
            obtain ⟨p0, p1, p2, p3⟩ := HQ9.out.bx.p.cells.1
            clear h14 HQL
            go_wp2_with fail
            clear b1 b1n p0 p1 p2 p3
            refine (do_any HQ9.out.x (by have := HKK.out; omega) k1 n1 PP P2 (by have := HSZ.out; unfold maxLen; omega) (by have := HSZ.out; unfold maxLen; omega)).mono ?_
            rintro e w10 ⟨rfl, hs, ht⟩
            have HQ10 := Lib.hid (HQ9.out.onX ht hs)
            obtain ⟨E, hE⟩ : ∃ E, doE C K2 ⟨k1, nmOf PP, nmOf P2, n1⟩ = E := ⟨_, rfl⟩
            rw [hE]
            have HE := Lib.hid hE
            clear hs ht hE HQ9
            by_cases he : E = 0
            · subst he
              obtain ⟨q0, q1, q2, q3⟩ := HQ10.out.bx.q.cells.1
              go_wp2_with fail
              clear q0 q1 q2 q3
              refine (do_any HQ10.out.y (by have := HKK.out; omega) k2 n2 Q1 Q2 (by have := HSZ.out; unfold maxLen; omega) (by have := HSZ.out; unfold maxLen; omega)).mono ?_
              rintro e w11 ⟨rfl, hs, ht⟩
              have HQ11 := Lib.hid (HQ10.out.onY ht hs)
              obtain ⟨E2, hE2⟩ : ∃ E2, doE C K3 ⟨k2, nmOf Q1, nmOf Q2, n2⟩ = E2 := ⟨_, rfl⟩
              rw [hE2]
              have HE2 := Lib.hid hE2
              clear hs ht hE2 HQ10
              by_cases he : E2 = 0
              · subst he
                have HPL : Hid (∀ p q : Op4, doE C K2 p = 0 → doE C K3 q = 0 → Far p q → doE (doC C K2 p) (doK C K2 p) q = 0 ∧ doE (doC C K3 q) (doK C K3 q) p = 0 ∧ savedS (doC (doC C K2 p) (doK C K2 p) q) (doK (doC C K2 p) (doK C K2 p) q) = savedS (doC (doC C K3 q) (doK C K3 q) p) (doK (doC C K3 q) (doK C K3 q) p)) := by
                  intro p q hp hq hf
                  have hp' : doE C K3 p = 0 := by rw [doE_perm (HKK.out.2.1.trans HKK.out.1.symm)]; exact hp
                  have hq' : doE C K2 q = 0 := by rw [doE_perm (HKK.out.1.trans HKK.out.2.1.symm)]; exact hq
                  have l2 := HKK.out.1.length_eq
                  have l3 := HKK.out.2.1.length_eq
                  have l := HK15.out
                  have a1 := apart_ok HQ11'.out.1 hp hq' hf (by omega)
                  have a2 := apart_ok HQ11'.out.2 hq hp' hf.symm (by omega)
                  have e1 : doC C K2 p = newC C p := by unfold doC; rw [if_pos hp]
                  have e2 : doK C K2 p = newK K2 p := by unfold doK; rw [if_pos hp]
                  have e3 : doC C K3 q = newC C q := by unfold doC; rw [if_pos hq]
                  have e4 : doK C K3 q = newK K3 q := by unfold doK; rw [if_pos hq]
                  rw [e1, e2, e3, e4]
                  refine ⟨a1, a2, ?_⟩
                  have f1 : doC (newC C p) (newK K2 p) q = newC (newC C p) q := by unfold doC; rw [if_pos a1]
                  have f2 : doK (newC C p) (newK K2 p) q = newK (newK K2 p) q := by unfold doK; rw [if_pos a1]
                  have f3 : doC (newC C q) (newK K3 q) p = newC (newC C q) p := by unfold doC; rw [if_pos a2]
                  have f4 : doK (newC C q) (newK K3 q) p = newK (newK K3 q) p := by unfold doK; rw [if_pos a2]
                  rw [f1, f2, f3, f4, newC_comm (doE_ok hp).1 (doE_ok hq).1]
                  exact saved_same ((newK_comm (doE_ok hp).1 (doE_ok hq).1 hf).trans (newK_perm2 (newK_perm2 (HKK.out.1.trans HKK.out.2.1.symm) q) p))
                have HZ := Lib.hid (HPL.out _ _ HE.out HE2.out HFAR.out)
                clear HPL
                obtain ⟨q0, q1, q2, q3⟩ := HQ11.out.bx.q.cells.1
                go_wp2_with fail
                clear q0 q1 q2 q3
                refine (do_any HQ11.out.x (by have := HKK.out; omega) k2 n2 Q1 Q2 (by have := HSZ.out; unfold maxLen; omega) (by have := HSZ.out; unfold maxLen; omega)).mono ?_
                rintro e w12 ⟨rfl, hs, ht⟩
                have HQ12 := Lib.hid (HQ11.out.onX ht hs)
                rw [HZ.out.1]
                clear hs ht HQ11
                obtain ⟨p0, p1, p2, p3⟩ := HQ12.out.bx.p.cells.1
                go_wp2_with fail
                clear p0 p1 p2 p3
                refine (do_any HQ12.out.y (by have := HKK.out; omega) k1 n1 PP P2 (by have := HSZ.out; unfold maxLen; omega) (by have := HSZ.out; unfold maxLen; omega)).mono ?_
                rintro e w13 ⟨rfl, hs, ht⟩
                have HQ13 := Lib.hid (HQ12.out.onY ht hs)
                rw [HZ.out.2.1]
                clear hs ht HQ12
                go_wp2_with fail
                refine (save_any HQ13.out.x).mono ?_
                rintro e w14 ⟨rfl, ht⟩
                have HQ14 := Lib.hid (HQ13.out.nope ht)
                clear ht HQ13
                obtain ⟨t1, ht1⟩ : ∃ t1, savedS (doC (doC C K2 ⟨k1, nmOf PP, nmOf P2, n1⟩) (doK C K2 ⟨k1, nmOf PP, nmOf P2, n1⟩) ⟨k2, nmOf Q1, nmOf Q2, n2⟩) (doK (doC C K2 ⟨k1, nmOf PP, nmOf P2, n1⟩) (doK C K2 ⟨k1, nmOf PP, nmOf P2, n1⟩) ⟨k2, nmOf Q1, nmOf Q2, n2⟩) = t1 := ⟨_, rfl⟩
                have HTT := Lib.hid (HZ.out.2.2.symm.trans ht1)
                rw [ht1]
                clear ht1
                go_wp2_with fail
                refine (save_any HQ14.out.y).mono ?_
                rintro e w15 ⟨rfl, ht⟩
                have HT15 := Lib.hid (HQ14.out.bx.tn.trans ht)
                rw [HTT.out]
                clear ht HQ14
                have s5 : (t1.toList == t1.toList) = true := by simp
                go_wp2_with fail
                go_ret
                exact ⟨rfl, HT15.out.nopeBelow⟩
              · have hb : (E2 != 0) = true := by simpa using he
                have hb2 : (E2 == 0) = false := by simpa using he
                clear he
                go_wp2_with fail
                go_ret
                exact ⟨rfl, HQ11.out.bx.tn.nopeBelow⟩
            · have hb : (E != 0) = true := by simpa using he
              have hb2 : (E == 0) = false := by simpa using he
              clear he
              go_wp2_with fail
              go_ret
              exact ⟨rfl, HQ10.out.bx.tn.nopeBelow⟩
end Go.Proofs.Ytlalbmgopbcplaa
