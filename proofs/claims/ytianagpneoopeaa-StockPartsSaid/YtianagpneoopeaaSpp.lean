/- What comes in two parts: the plain law, and two shelves in memory. -/
import Derived.Test.YtianagpneoopeaaSld
set_option maxRecDepth 16000
set_option linter.unusedVariables false
set_option linter.unusedSimpArgs false
namespace Go.Proofs.Ytianagpneoopeaa
open Go.RowKit Go.Maps
variable {C : Nm → Int} {K : List Nm} {w0 w w' : World} {s mb n : Nat} {D : Dm} {o : Op3}
/-- A shelf's goods, one of them v times. -/
def pt (C : Nm → Int) (nm : Nm) (v : Int) : Nm → Int := fun y => if y = nm then v else C y
theorem pt_self (C : Nm → Int) (nm : Nm) : pt C nm (C nm) = C := by
  funext y
  unfold pt
  by_cases hy : y = nm
  · rw [if_pos hy, hy]
  · rw [if_neg hy]
theorem pt_at (C : Nm → Int) (nm : Nm) (v : Int) : pt C nm v nm = v := by unfold pt; rw [if_pos rfl]
theorem pt_add {nm : Nm} {v N : Int} (h : doE (pt C nm v) K ⟨1, nm, N⟩ = 0) : doC (pt C nm v) K ⟨1, nm, N⟩ = pt C nm (v + N) := by
  unfold doC
  rw [if_pos h]
  funext y
  by_cases hy : y = nm
  · subst hy
    rw [newC_at (o := ⟨1, y, N⟩), if_neg (show ¬ (1 : Int) = 2 by decide), pt_at]
    rw [pt_at]
  · rw [newC_far (o := ⟨1, nm, N⟩) hy]
    unfold pt
    rw [if_neg hy, if_neg hy]
theorem pt_take {nm : Nm} {v N : Int} (h : doE (pt C nm v) K ⟨2, nm, N⟩ = 0) : doC (pt C nm v) K ⟨2, nm, N⟩ = pt C nm (v - N) := by
  unfold doC
  rw [if_pos h]
  funext y
  by_cases hy : y = nm
  · subst hy
    rw [newC_at (o := ⟨2, y, N⟩), if_pos (show (2 : Int) = 2 from rfl), pt_at]
    rw [pt_at]
  · rw [newC_far (o := ⟨2, nm, N⟩) hy]
    unfold pt
    rw [if_neg hy, if_neg hy]
theorem chk_nm {k : Int} {nm : Nm} {N : Int} (hk : k = 1 ∨ k = 2) (h1 : nm ≠ []) (h2 : nm.length ≤ 12) (h3 : 1 ≤ N) (h4 : N ≤ 1099511627776) : chk ⟨k, nm, N⟩ = 0 := by
  unfold chk
  rw [if_neg (by show ¬ (k ≠ 1 ∧ k ≠ 2); omega), if_neg]
  rintro (e | e | e | e)
  · exact h1 e
  · have e : 12 < nm.length := e; omega
  · have e : N < 1 := e; omega
  · have e : 1099511627776 < N := e; omega
theorem add_ok {nm : Nm} {v N : Int} (h1 : nm ≠ []) (h2 : nm.length ≤ 12) (h3 : 1 ≤ N) (h4 : v + N ≤ 1099511627776) (h0 : 0 ≤ v) (hK : v = 0 → K.length < 16) : doE (pt C nm v) K ⟨1, nm, N⟩ = 0 := by
  unfold doE
  rw [if_neg (by rw [chk_nm (.inl rfl) h1 h2 h3 (by omega)]; decide), if_neg (show ¬ (1 : Int) = 2 by decide)]
  simp only [pt_at]
  rw [if_neg (fun e => by have := hK e.1; omega), if_neg (by omega)]
theorem take_ok {nm : Nm} {v N : Int} (h1 : nm ≠ []) (h2 : nm.length ≤ 12) (h3 : 1 ≤ N) (h4 : N ≤ v) (h5 : v ≤ 1099511627776) : doE (pt C nm v) K ⟨2, nm, N⟩ = 0 := by
  unfold doE
  rw [if_neg (by rw [chk_nm (.inr rfl) h1 h2 h3 (by omega)]; decide), if_pos (show (2 : Int) = 2 from rfl)]
  simp only [pt_at]
  rw [if_neg (by omega), if_neg (by omega)]
theorem doK_len (C : Nm → Int) (K : List Nm) (o : Op3) : (doK C K o).length ≤ K.length + 1 := by
  unfold doK newK
  split
  · split
    · split
      · exact Nat.le_succ_of_le List.length_erase_le
      · exact Nat.le_succ _
    · split
      · exact Nat.le_refl _
      · exact Nat.le_succ _
  · exact Nat.le_succ _
/-- Two shelves, and the name in its box. -/
structure PW (w W : World) (bn : Nat) (nmB : ByteArray) (s mb n s2 mb2 n2 : Nat) (C1 : Nm → Int) (K1 : List Nm) (C2 : Nm → Int) (K2 : List Nm) : Prop where
  box : W.heap[bn]? = some (.cells #[.string nmB] 9 (0, 0))
  x : Sh w W s mb n C1 K1
  y : Sh w W s2 mb2 n2 C2 K2
  ne : s ≠ mb2 ∧ mb ≠ mb2 ∧ s2 ≠ mb
  tn : Turn Nope w W
  cn : n ≤ 100 ∧ n2 ≤ 100
variable {W W' : World} {bn s2 mb2 n2 : Nat} {nmB : ByteArray} {C1 C2 : Nm → Int} {K1 K2 : List Nm}
theorem Sh.mblk {w : World} (h : Sh w0 w s mb n C K) : ∃ es clock, w.heap[mb]? = some (.map es clock) := by
  obtain ⟨D, hD⟩ := h.map
  exact hD.blk
theorem PW.nope (h : PW w W bn nmB s mb n s2 mb2 n2 C1 K1 C2 K2) (ht : Turn Nope W W') : PW w W' bn nmB s mb n s2 mb2 n2 C1 K1 C2 K2 :=
  ⟨ht.blk h.box fun h => h, h.x.nope ht, h.y.nope ht, h.ne, h.tn.trans ht, h.cn⟩
theorem PW.onX {C1' : Nm → Int} {K1' : List Nm} (h : PW w W bn nmB s mb n s2 mb2 n2 C1 K1 C2 K2) (hn : n + 1 ≤ 100) (ht : Turn (At mb) W W') (hs : Sh w W' s mb (n + 1) C1' K1') : PW w W' bn nmB s mb (n + 1) s2 mb2 n2 C1' K1' C2 K2 := by
  obtain ⟨es, clock, hb⟩ := h.x.mblk
  refine ⟨ht.blk h.box fun e => ?_, hs, h.y.turn ht (fun e => h.ne.2.2 e) (fun e => h.ne.2.1 (show mb2 = mb from e).symm), h.ne, h.tn.then ht fun k hk => .inr (by rw [show k = mb from hk]; exact h.x.lom), ⟨hn, h.cn.2⟩⟩
  have e : bn = mb := e
  have := h.box
  rw [e, hb] at this; cases this
theorem PW.onY {C2' : Nm → Int} {K2' : List Nm} (h : PW w W bn nmB s mb n s2 mb2 n2 C1 K1 C2 K2) (hn : n2 + 1 ≤ 100) (ht : Turn (At mb2) W W') (hs : Sh w W' s2 mb2 (n2 + 1) C2' K2') : PW w W' bn nmB s mb n s2 mb2 (n2 + 1) C1 K1 C2' K2' := by
  obtain ⟨es, clock, hb⟩ := h.y.mblk
  refine ⟨ht.blk h.box fun e => ?_, h.x.turn ht (fun e => h.ne.1 e) (fun e => h.ne.2.1 e), hs, h.ne, h.tn.then ht fun k hk => .inr (by rw [show k = mb2 from hk]; exact h.y.lom), ⟨h.cn.1, hn⟩⟩
  have e : bn = mb2 := e
  have := h.box
  rw [e, hb] at this; cases this
/-- Before there are two: the first loop. -/
structure PX (w W : World) (bn : Nat) (nmB : ByteArray) (s mb i : Nat) (C1 : Nm → Int) (K1 : List Nm) : Prop where
  box : W.heap[bn]? = some (.cells #[.string nmB] 9 (0, 0))
  x : Sh w W s mb i C1 K1
  tn : Turn Nope w W
  len : K1.length ≤ i
theorem PX.nope {i : Nat} (h : PX w W bn nmB s mb i C1 K1) (ht : Turn Nope W W') : PX w W' bn nmB s mb i C1 K1 :=
  ⟨ht.blk h.box fun h => h, h.x.nope ht, h.tn.trans ht, h.len⟩
theorem PX.did {i : Nat} (h : PX w W bn nmB s mb i C1 K1) (ht : Turn (At mb) W W') (hs : Sh w W' s mb (i + 1) (doC C1 K1 o) (doK C1 K1 o)) : PX w W' bn nmB s mb (i + 1) (doC C1 K1 o) (doK C1 K1 o) := by
  obtain ⟨es, clock, hb⟩ := h.x.mblk
  refine ⟨ht.blk h.box fun e => ?_, hs, h.tn.then ht fun k hk => .inr (by rw [show k = mb from hk]; exact h.x.lom), Nat.le_trans (doK_len _ _ _) (by have := h.len; omega)⟩
  have e : bn = mb := e
  have := h.box
  rw [e, hb] at this; cases this
/-- The op of a closure that has the name. -/
theorem op_any (k N : Int) (hb : W.heap[bn]? = some (.cells #[.string nmB] 9 (0, 0))) :
    Calls Try.prog 16 #[.int .i64 k, .int .i64 N, .pointer (some ⟨bn, 0, none⟩)] W fun e w' => e = .returned (.agg #[.int .i64 k, .string nmB, .int .i64 N]) ∧ Turn Nope W w' := by
  have c0 := blk_cell (blk_alloc hb (.cells #[.int .i64 0, .string ⟨#[]⟩, .int .i64 0] 28)) 0
  simp only [List.getElem?_toArray, List.getElem?_cons_zero] at c0
  clear hb
  go_enter Try.func16, Try.ntmps16
  go_wp2_with fail
  exact bodyPost_ret (v := .agg #[.int .i64 k, .string nmB, .int .i64 N]) (by simp [results, Try.results16, go_sem]) rfl ⟨rfl, (Turn.refl _ _).alloc _⟩
end Go.Proofs.Ytianagpneoopeaa
