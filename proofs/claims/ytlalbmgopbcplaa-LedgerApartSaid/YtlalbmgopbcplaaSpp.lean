/- What is moved in two parts: the plain law, and two books in memory. -/
import Derived.Test.YtlalbmgopbcplaaSld
import Derived.Test.YtlalbmgopbcplaaSbk
import Derived.Test.YtlalbmgopbcplaaSaw
set_option maxRecDepth 16000
set_option linter.unusedVariables false
set_option linter.unusedSimpArgs false
namespace Go.Proofs.Ytlalbmgopbcplaa
open Go.RowKit Go.Maps
variable {C : Nm → Int} {K : List Nm} {w0 w w' : World} {s mb n : Nat} {D : Dm} {o : Op4}
/-- A book, when d has been moved from the house to one of the accounts. -/
def mv (C : Nm → Int) (nm : Nm) (d : Int) : Nm → Int := fun y => if y = nm then C nm + d else if y = [] then C [] - d else C y
theorem mv_zero (C : Nm → Int) (nm : Nm) : mv C nm 0 = C := by
  funext y
  unfold mv
  by_cases hy : y = nm
  · rw [if_pos hy, hy]; omega
  · rw [if_neg hy]
    by_cases hy2 : y = []
    · rw [if_pos hy2, hy2]; omega
    · rw [if_neg hy2]
theorem mv_at (C : Nm → Int) (nm : Nm) (d : Int) : mv C nm d nm = C nm + d := by unfold mv; rw [if_pos rfl]
theorem mv_house {nm : Nm} (h : nm ≠ []) (C : Nm → Int) (d : Int) : mv C nm d [] = C [] - d := by unfold mv; rw [if_neg (fun e => h e.symm), if_pos rfl]
theorem chk_mv {x y : Nm} {N : Int} (h1 : x ≠ y) (h2 : x.length ≤ 12) (h3 : y.length ≤ 12) (h4 : 1 ≤ N) (h5 : N ≤ 1099511627776) : chk ⟨3, x, y, N⟩ = 0 := by
  unfold chk
  rw [if_neg (show ¬ ((3 : Int) < 1 ∨ 3 < (3 : Int)) by decide), if_neg (show ¬ (12 < x.length ∨ 12 < y.length) by omega), if_neg (show ¬ ((3 : Int) = 3 ∧ (x = y ∨ N < 1 ∨ 1099511627776 < N)) from fun e => by rcases e.2 with e | e | e; exact h1 e; omega; omega), if_neg (show ¬ ((3 : Int) ≠ 3 ∧ _) from fun e => e.1 rfl)]
theorem to_ok {nm : Nm} {d N : Int} (h1 : nm ≠ []) (h2 : nm.length ≤ 12) (hK : nm ∈ K) (hH : [] ∈ K) (h3 : 1 ≤ N) (h4 : N ≤ 1099511627776) (h5 : C nm + d + N ≤ 1099511627776) : doE (mv C nm d) K ⟨3, [], nm, N⟩ = 0 := by
  unfold doE
  rw [if_neg (by rw [chk_mv (fun e => h1 e.symm) (Nat.zero_le _) h2 h3 h4]; decide), if_neg (show ¬ (3 : Int) = 1 by decide), if_neg (show ¬ (([] : Nm) ∉ K) from fun e => e hH), if_neg (show ¬ (3 : Int) = 2 by decide), if_neg (show ¬ (nm ∉ K) from fun e => e hK), if_neg (show ¬ (([] : Nm) ≠ [] ∧ _) from fun e => e.1 rfl)]
  show (if nm ≠ [] ∧ 1099511627776 < mv C nm d nm + N then (10 : Int) else 0) = 0
  rw [mv_at, if_neg (fun e => by have := e.2; omega)]
theorem from_ok {nm : Nm} {d N : Int} (h1 : nm ≠ []) (h2 : nm.length ≤ 12) (hK : nm ∈ K) (hH : [] ∈ K) (h3 : 1 ≤ N) (h4 : N ≤ 1099511627776) (h5 : N ≤ C nm + d) : doE (mv C nm d) K ⟨3, nm, [], N⟩ = 0 := by
  unfold doE
  rw [if_neg (by rw [chk_mv h1 h2 (Nat.zero_le _) h3 h4]; decide), if_neg (show ¬ (3 : Int) = 1 by decide), if_neg (show ¬ (nm ∉ K) from fun e => e hK), if_neg (show ¬ (3 : Int) = 2 by decide), if_neg (show ¬ (([] : Nm) ∉ K) from fun e => e hH)]
  show (if nm ≠ [] ∧ mv C nm d nm < N then (11 : Int) else if ([] : Nm) ≠ [] ∧ _ then 10 else 0) = 0
  rw [mv_at, if_neg (fun e => by have := e.2; omega), if_neg (fun e => e.1 rfl)]
theorem mv_to {nm : Nm} {d N : Int} (h1 : nm ≠ []) (h : doE (mv C nm d) K ⟨3, [], nm, N⟩ = 0) : doC (mv C nm d) K ⟨3, [], nm, N⟩ = mv C nm (d + N) ∧ doK (mv C nm d) K ⟨3, [], nm, N⟩ = K := by
  unfold doC doK
  rw [if_pos h, if_pos h]
  refine ⟨?_, rfl⟩
  rw [newC_move (o := ⟨3, [], nm, N⟩) rfl]
  funext y
  show (if y = nm then mv C nm d nm + N else if y = [] then mv C nm d [] - N else mv C nm d y) = _
  rw [mv_at, mv_house h1]
  unfold mv
  by_cases hy : y = nm
  · rw [if_pos hy, if_pos hy]; omega
  · by_cases hy2 : y = []
    · simp only [if_neg hy, if_pos hy2]; omega
    · simp only [if_neg hy, if_neg hy2]
theorem mv_from {nm : Nm} {d N : Int} (h1 : nm ≠ []) (h : doE (mv C nm d) K ⟨3, nm, [], N⟩ = 0) : doC (mv C nm d) K ⟨3, nm, [], N⟩ = mv C nm (d - N) ∧ doK (mv C nm d) K ⟨3, nm, [], N⟩ = K := by
  unfold doC doK
  rw [if_pos h, if_pos h]
  refine ⟨?_, rfl⟩
  rw [newC_move (o := ⟨3, nm, [], N⟩) rfl]
  funext y
  show (if y = [] then mv C nm d [] + N else if y = nm then mv C nm d nm - N else mv C nm d y) = _
  rw [mv_at, mv_house h1]
  unfold mv
  by_cases hy2 : y = []
  · have hy : ¬ y = nm := fun e => h1 (by rw [← e, hy2])
    simp only [if_neg hy, if_pos hy2]; omega
  · by_cases hy : y = nm
    · simp only [if_pos hy, if_neg hy2]; omega
    · simp only [if_neg hy, if_neg hy2]
variable {W W' : World} {bn s2 mb2 n2 : Nat} {nmB : ByteArray} {C1 C2 : Nm → Int} {K1 K2 : List Nm}
/-- One book: the first loop. -/
structure PX (w W : World) (s mb n : Nat) (C1 : Nm → Int) (K1 : List Nm) : Prop where
  x : Sh w W s mb n C1 K1
  tn : Turn Nope w W
  sm : sumK C1 K1 = 0
theorem PX.nope (h : PX w W s mb n C1 K1) (ht : Turn Nope W W') : PX w W' s mb n C1 K1 := ⟨h.x.nope ht, h.tn.trans ht, h.sm⟩
theorem PX.did (h : PX w W s mb n C1 K1) (ht : Turn (At mb) W W') (hs : Sh w W' s mb (n + 2) (doC C1 K1 o) (doK C1 K1 o)) : PX w W' s mb (n + 2) (doC C1 K1 o) (doK C1 K1 o) :=
  ⟨hs, h.tn.then ht fun k hk => .inr (by rw [show k = mb from hk]; exact h.x.lom), sum_did h.x.good h.sm⟩
/-- Two books, and the name in its box. -/
structure PW (w W : World) (bn : Nat) (nmB : ByteArray) (s mb n s2 mb2 n2 : Nat) (C1 : Nm → Int) (K1 : List Nm) (C2 : Nm → Int) (K2 : List Nm) : Prop where
  box : W.heap[bn]? = some (.cells #[.string nmB] 9 (0, 0))
  x : Sh w W s mb n C1 K1
  y : Sh w W s2 mb2 n2 C2 K2
  ne : s ≠ mb2 ∧ mb ≠ mb2 ∧ s2 ≠ mb
  tn : Turn Nope w W
theorem PW.nope (h : PW w W bn nmB s mb n s2 mb2 n2 C1 K1 C2 K2) (ht : Turn Nope W W') : PW w W' bn nmB s mb n s2 mb2 n2 C1 K1 C2 K2 :=
  ⟨ht.blk h.box fun h => h, h.x.nope ht, h.y.nope ht, h.ne, h.tn.trans ht⟩
theorem PW.onX {C1' : Nm → Int} {K1' : List Nm} {n' : Nat} (h : PW w W bn nmB s mb n s2 mb2 n2 C1 K1 C2 K2) (ht : Turn (At mb) W W') (hs : Sh w W' s mb n' C1' K1') : PW w W' bn nmB s mb n' s2 mb2 n2 C1' K1' C2 K2 := by
  obtain ⟨es, clock, hb⟩ := h.x.mblk
  refine ⟨ht.blk h.box fun e => ?_, hs, h.y.turn ht (fun e => h.ne.2.2 e) (fun e => h.ne.2.1 (show mb2 = mb from e).symm), h.ne, h.tn.then ht fun k hk => .inr (by rw [show k = mb from hk]; exact h.x.lom)⟩
  have e : bn = mb := e
  have := h.box
  rw [e, hb] at this; cases this
theorem PW.onY {C2' : Nm → Int} {K2' : List Nm} {n' : Nat} (h : PW w W bn nmB s mb n s2 mb2 n2 C1 K1 C2 K2) (ht : Turn (At mb2) W W') (hs : Sh w W' s2 mb2 n' C2' K2') : PW w W' bn nmB s mb n s2 mb2 n' C1 K1 C2' K2' := by
  obtain ⟨es, clock, hb⟩ := h.y.mblk
  refine ⟨ht.blk h.box fun e => ?_, h.x.turn ht (fun e => h.ne.1 e) (fun e => h.ne.2.1 e), hs, h.ne, h.tn.then ht fun k hk => .inr (by rw [show k = mb2 from hk]; exact h.y.lom)⟩
  have e : bn = mb2 := e
  have := h.box
  rw [e, hb] at this; cases this
/-- The op of a closure that has the name. -/
theorem op_any (N : Int) (hb : W.heap[bn]? = some (.cells #[.string nmB] 9 (0, 0))) :
    Calls Try.prog 17 #[.int .i64 N, .pointer (some ⟨bn, 0, none⟩)] W fun e w' => e = .returned (.agg #[.int .i64 3, .string ⟨#[]⟩, .string nmB, .int .i64 N]) ∧ Turn Nope W w' := by
  have c0 := blk_cell (blk_alloc hb (.cells #[.int .i64 0, .string ⟨#[]⟩, .string ⟨#[]⟩, .int .i64 0] 29)) 0
  simp only [List.getElem?_toArray, List.getElem?_cons_zero] at c0
  clear hb
  go_enter Try.func17, Try.ntmps17
  go_wp2_with fail
  exact bodyPost_ret (v := .agg #[.int .i64 3, .string ⟨#[]⟩, .string nmB, .int .i64 N]) (by simp [results, Try.results17, go_sem]) rfl ⟨rfl, (Turn.refl _ _).alloc _⟩
end Go.Proofs.Ytlalbmgopbcplaa
