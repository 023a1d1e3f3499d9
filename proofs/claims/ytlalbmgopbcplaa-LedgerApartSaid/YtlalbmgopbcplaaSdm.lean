/- Do, walked. -/
import Derived.Test.YtlalbmgopbcplaaSck
import Derived.Deep.CutBlock
import Derived.WideKeyEntry
set_option maxRecDepth 16000
set_option linter.unusedVariables false
set_option linter.unusedSimpArgs false
namespace Go.Proofs.Ytlalbmgopbcplaa
open Go.RowKit Go.Maps
open Go.ChangeMaps (setBlock heap_setBlock_same heap_setBlock_other)
variable {C : Nm → Int} {K : List Nm} {w0 w w' : World} {s mb n : Nat} {D : Dm} {o : Op4}
theorem setBlock_twice (w : World) (b : Nat) (o1 o2 : Obj) : setBlock (setBlock w b o1) b o2 = setBlock w b o2 := by
  unfold setBlock
  simp [Array.setIfInBounds_setIfInBounds]
theorem CntM.entry (h : CntM w mb n D C K) {x : ByteArray} (hx : x.size ≤ maxLen) (hn : n < maxLen) {v : Int} (hv : (Lit.int .i64 v).wf = true) :
    ∃ (v0 : Value) (st : Int) (w1 w2 : World), (Instr.mapEntry 44 (.map (some mb)) (.string x)).run Try.prog w = .ok (.tuple #[v0, .int .i64 st]) w1 ∧ (Instr.entryStore 44 (.map (some mb)) (.int .i64 st) (.int .i64 v)).run Try.prog w1 = .ok () w2 ∧
      w2.ownsMap Try.prog 9 (plainElem (H := Unit) Try.prog 3) mb (n + 1) (D.put (.string (nmOf x)) (.lit (.int .i64 v))) ∧ w.grownBy w2 (some mb) ∧ w.grownBy w1 (some mb) := by
  obtain ⟨es, clock, hb, F, hs, hD⟩ := h.own
  have hkey : keyOf Try.prog 9 (.string x) = some (.string (nmOf x)) := Go.WideMaps.keyOf_string_mk Try.underlying9 hx
  obtain ⟨v0, st, es1, clock1, h1, _, h2⟩ := Go.WideElems.entry_then_store (Go.WideMaps.string_law Try.underlying9) Try.underlying44 (fun u => zero3 u) hb F hkey
  obtain ⟨es', clock', h3, h4⟩ := h2 (setBlock w mb (.map es1 clock1)) (.int .i64 v) (heap_setBlock_same hb _)
  obtain ⟨w2, h5, h6, h7⟩ := h.own.update law9 Try.underlying44 hn hkey (val := .int .i64 v) (plainElem_int Try.underlying3 hv)
  rw [h4] at h5
  injection h5 with _ h5
  rw [setBlock_twice, h5] at h3
  refine ⟨v0, (st : Int), _, w2, h1, h3, h6, h7, ⟨rfl, rfl, rfl, by simp [setBlock], fun i _ hi => heap_setBlock_other hb _ (fun e => hi (by rw [e]))⟩⟩
theorem CntM.mono (h : CntM w mb n D C K) {n' : Nat} (hn : n ≤ n') : CntM w mb n' D C K := ⟨h.own.mono hn, h.val, h.has, h.len⟩
theorem house_more (h : Sh w0 w s mb n C K) {a : Int} (h0 : -1099511627776 ≤ a - C []) (h1 : a - C [] ≤ 1099511627776) {m : Nat} (hm : n + 1 ≤ m) : -((m : Int) * 1099511627776) ≤ a ∧ a ≤ (m : Int) * 1099511627776 := by
  have h2 := h.house
  omega
theorem Sh.none (h : Sh w0 w s mb n C K) (hd : doE C K o ≠ 0) : Sh w0 w s mb (n + 2) (doC C K o) (doK C K o) := by
  unfold doC doK
  rw [if_neg hd, if_neg hd]
  obtain ⟨D, hD⟩ := h.map
  exact ⟨h.hs, h.los, h.lom, ⟨D, hD.mono (by omega)⟩, h.good, house_more h (by omega) (by omega) (by omega)⟩
theorem Sh.same {w5 : World} (h : Sh w0 w s mb n C K) (hd : doE C K o = 0) (hg : w.grownBy w5 (some mb)) {D' : Dm} (hm : CntM w5 mb (n + 2) D' (newC C o) (newK K o)) : Sh w0 w5 s mb (n + 2) (doC C K o) (doK C K o) := by
  unfold doC doK
  rw [if_pos hd, if_pos hd]
  refine ⟨blk_grown h.hs hg (fun e => by injection e with e; exact h.ne e.symm), h.los, h.lom, ⟨_, hm⟩, h.good.put hd, ?_⟩
  obtain ⟨hc, h1, h2, h3⟩ := doE_ok hd
  obtain ⟨c1, c2, c3, c4, c5, c6⟩ := chk_ok hc
  by_cases hk : o.k = 3
  · have hb := c5 hk
    rw [newC_move hk]
    show -(((n + 2 : Nat) : Int) * 1099511627776) ≤ (if [] = o.to then _ else if [] = o.nm then _ else _) ∧ (if [] = o.to then _ else if [] = o.nm then _ else _) ≤ _
    split
    · rename_i e; rw [← e]; exact house_more h (by omega) (by omega) (by omega)
    · split
      · rename_i e; rw [← e]; exact house_more h (by omega) (by omega) (by omega)
      · exact house_more h (by omega) (by omega) (by omega)
  · rw [newC_stay hk]; exact house_more h (by omega) (by omega) (by omega)
theorem doE_chk (h : chk o ≠ 0) : doE C K o = chk o := by unfold doE; rw [if_pos h]
theorem wf_small {v : Int} (h0 : -4611686018427387904 ≤ v) (h1 : v ≤ 4611686018427387904) : (Lit.int .i64 v).wf = true := by
  have a : IntKind.i64.min ≤ v := Int.le_trans (by decide) h0
  have b : v ≤ IntKind.i64.max := Int.le_trans h1 (by decide)
  show (decide (_ ≤ _) && decide (_ ≤ _)) = true
  rw [decide_eq_true a, decide_eq_true b]; rfl
end Go.Proofs.Ytlalbmgopbcplaa
