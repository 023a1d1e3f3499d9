/- An object of any kind: the plain state, and its contracts. -/
import Derived.Test.YteggenihjhclkaaOm
import Derived.Test.YteggenihjhclkaaLg
import Derived.Test.YteggenihjhclkaaSk
import Derived.Test.YteggenihjhclkaaTx
set_option maxRecDepth 16000
set_option linter.unusedVariables false
set_option linter.unusedSimpArgs false
namespace Go.Proofs.Yteggenihjhclkaa
open Go.RowKit Go.Maps
/-- An object. -/
inductive PS where
  | tx (s : ByteArray)
  | lg (C : Lg.Nm → Int) (K : List Lg.Nm)
  | sk (C : Sk.Nm → Int) (K : List Sk.Nm)
def PS.kind : PS → Nat
  | .tx _ => 1
  | .lg _ _ => 2
  | .sk _ _ => 3
/-- An op of an object. -/
structure OOp where
  k : Int
  tk : Int
  ta : Int
  ts : ByteArray
  tn : Int
  lk : Int
  ln : ByteArray
  lt : ByteArray
  la : Int
  sk : Int
  sn : ByteArray
  sN : Int
def opC (o : OOp) : Array Value := #[.int .i64 o.k, .int .i64 o.tk, .int .i64 o.ta, .string o.ts, .int .i64 o.tn, .int .i64 o.lk, .string o.ln, .string o.lt, .int .i64 o.la, .int .i64 o.sk, .string o.sn, .int .i64 o.sN]
def lgOp (o : OOp) : Lg.Op4 := ⟨o.lk, Lg.nmOf o.ln, Lg.nmOf o.lt, o.la⟩
def skOp (o : OOp) : Sk.Op3 := ⟨o.sk, Sk.nmOf o.sn, o.sN⟩
def PS.err (P : PS) (o : OOp) : Int :=
  match P with
  | .tx s => if o.k = 1 then (Tx.dDo s o.tk o.ta o.ts o.tn).2.2 else 5
  | .lg C K => if o.k = 2 then Lg.doE C K (lgOp o) else 5
  | .sk C K => if o.k = 3 then Sk.doE C K (skOp o) else 5
def PS.gone (P : PS) (o : OOp) : ByteArray :=
  match P with
  | .tx s => if o.k = 1 then (Tx.dDo s o.tk o.ta o.ts o.tn).2.1 else ⟨#[]⟩
  | _ => ⟨#[]⟩
def PS.nxt (P : PS) (o : OOp) : PS :=
  match P with
  | .tx s => if o.k = 1 then .tx (Tx.dDo s o.tk o.ta o.ts o.tn).1 else P
  | .lg C K => if o.k = 2 then .lg (Lg.doC C K (lgOp o)) (Lg.doK C K (lgOp o)) else P
  | .sk C K => if o.k = 3 then .sk (Sk.doC C K (skOp o)) (Sk.doK C K (skOp o)) else P
def PS.saved : PS → ByteArray
  | .tx s => Tx.saved s
  | .lg C K => Lg.savedS C K
  | .sk C K => Sk.savedS C K
def PS.new (k : Nat) : PS := if k = 1 then .tx ⟨#[]⟩ else if k = 2 then .lg (fun _ => 0) [[]] else .sk (fun _ => 0) []
theorem PS.kind_nxt (P : PS) (o : OOp) : (P.nxt o).kind = P.kind := by
  cases P <;> (unfold PS.nxt; dsimp only; split <;> rfl)
theorem PS.kind_new (k : Nat) (h : 1 ≤ k) (h3 : k ≤ 3) : (PS.new k).kind = k := by
  unfold PS.new
  by_cases h1 : k = 1
  · rw [if_pos h1, h1]; rfl
  · rw [if_neg h1]
    by_cases h2 : k = 2
    · rw [if_pos h2, h2]; rfl
    · rw [if_neg h2]; show 3 = k; omega
/-- In memory. -/
def Ob (w0 w : World) (b m c : Nat) : PS → Prop
  | .tx s => b = m ∧ Tx.IsDoc w m s ∧ s.size ≤ 200 ∧ w0.heap.size ≤ m
  | .lg C K => ∃ n, Lg.Sh w0 w b m n C K ∧ Lg.sumK C K = 0 ∧ n ≤ c
  | .sk C K => ∃ n, Sk.Sh w0 w b m n C K ∧ n ≤ c
variable {w0 w w' : World} {b m c : Nat} {P : PS}
theorem Ob.turn {S : Nat → Prop} (h : Ob w0 w b m c P) (ht : Turn S w w') (hb : ¬ S b) (hm : ¬ S m) : Ob w0 w' b m c P := by
  cases P with
  | tx s => exact ⟨h.1, ht.blk h.2.1 hm, h.2.2⟩
  | lg C K => obtain ⟨n, h1, h2⟩ := h; exact ⟨n, h1.turn ht hb hm, h2⟩
  | sk C K => obtain ⟨n, h1, h2⟩ := h; exact ⟨n, h1.turn ht hb hm, h2⟩
theorem Ob.nope (h : Ob w0 w b m c P) (ht : Turn Nope w w') : Ob w0 w' b m c P := h.turn ht (fun h => h) fun h => h
theorem Ob.lo (h : Ob w0 w b m c P) : w0.heap.size ≤ b ∧ w0.heap.size ≤ m := by
  cases P with
  | tx s => obtain ⟨rfl, -, -, h⟩ := h; exact ⟨h, h⟩
  | lg C K => obtain ⟨n, h1, h2⟩ := h; exact ⟨h1.los, h1.lom⟩
  | sk C K => obtain ⟨n, h1, h2⟩ := h; exact ⟨h1.los, h1.lom⟩
/-- The block that an op turns is a map, or a document. -/
theorem Ob.blk (h : Ob w0 w b m c P) : (∃ es clock, w.heap[m]? = some (.map es clock)) ∨ ∃ s, w.heap[m]? = some (.cells #[.string s] 89 (0, 0)) := by
  cases P with
  | tx s => exact .inr ⟨s, h.2.1⟩
  | lg C K => obtain ⟨n, h1, h2⟩ := h; obtain ⟨D, hD⟩ := h1.map; exact .inl hD.blk
  | sk C K => obtain ⟨n, h1, h2⟩ := h; obtain ⟨D, hD⟩ := h1.map; exact .inl hD.blk
theorem Ob.lt (h : Ob w0 w b m c P) : b < w.heap.size ∧ m < w.heap.size := by
  cases P with
  | tx s => obtain ⟨rfl, h, -⟩ := h; exact ⟨blk_lt h, blk_lt h⟩
  | lg C K => obtain ⟨n, h1, h2⟩ := h; obtain ⟨D, hD⟩ := h1.map; obtain ⟨es, cl, hb⟩ := hD.blk; exact ⟨blk_lt h1.hs, blk_lt hb⟩
  | sk C K => obtain ⟨n, h1, h2⟩ := h; obtain ⟨D, hD⟩ := h1.map; obtain ⟨es, cl, hb⟩ := hD.blk; exact ⟨blk_lt h1.hs, blk_lt hb⟩
theorem Ob.low {w1 : World} (h : Ob w1 w b m c P) (hl : w0.heap.size ≤ w1.heap.size) : Ob w0 w b m c P := by
  cases P with
  | tx s => exact ⟨h.1, h.2.1, h.2.2.1, Nat.le_trans hl h.2.2.2⟩
  | lg C K => obtain ⟨n, h1, h2⟩ := h; exact ⟨n, ⟨h1.hs, Nat.le_trans hl h1.los, Nat.le_trans hl h1.lom, h1.map, h1.good, h1.house⟩, h2⟩
  | sk C K => obtain ⟨n, h1, h2⟩ := h; exact ⟨n, ⟨h1.hs, Nat.le_trans hl h1.los, Nat.le_trans hl h1.lom, h1.map, h1.good⟩, h2⟩
theorem Ob.mono {c' : Nat} (h : Ob w0 w b m c P) (hc : c ≤ c') : Ob w0 w b m c' P := by
  cases P with
  | tx s => exact h
  | lg C K => obtain ⟨n, h1, h2, h3⟩ := h; exact ⟨n, h1, h2, Nat.le_trans h3 hc⟩
  | sk C K => obtain ⟨n, h1, h3⟩ := h; exact ⟨n, h1, Nat.le_trans h3 hc⟩
theorem dDo_size (s : ByteArray) (k a : Int) (S : ByteArray) (n : Int) (hs : s.size ≤ 200) : (Tx.dDo s k a S n).1.size ≤ 200 := by
  by_cases h : (Tx.dDo s k a S n).2.2 = 0
  · exact (Tx.dOp_back s ⟨k, a, S, n⟩ hs h).2.2.2
  · unfold Tx.dDo at h ⊢
    by_cases h1 : Tx.chk k a S n ≠ 0
    · rw [if_pos h1]; exact hs
    · rw [if_neg h1] at h ⊢
      by_cases h2 : k = 1
      · rw [if_pos h2] at h ⊢
        by_cases h3 : (s.size : Int) < a
        · rw [if_pos h3]; exact hs
        · rw [if_neg h3] at h ⊢
          by_cases h4 : 200 < (s.size : Int) + S.size
          · rw [if_pos h4]; exact hs
          · rw [if_neg h4] at h; exact absurd rfl h
      · rw [if_neg h2] at h ⊢
        by_cases h3 : (s.size : Int) < a + n
        · rw [if_pos h3]; exact hs
        · rw [if_neg h3] at h; exact absurd rfl h
/-! ### the methods: which function each is -/
def tyO (k : Nat) : TypeId := if k = 1 then 71 else if k = 2 then 75 else 79
def fDo (k : Nat) : Nat := if k = 1 then 61 else if k = 2 then 106 else 112
def fSave (k : Nat) : Nat := if k = 1 then 56 else if k = 2 then 77 else 109
def fClone (k : Nat) : Nat := if k = 1 then 60 else if k = 2 then 105 else 111
def fKind (k : Nat) : Nat := if k = 1 then 62 else if k = 2 then 107 else 113
abbrev pv (b : Nat) : Value := .pointer (some ⟨b, 0, none⟩)
abbrev rv (b : Nat) : Value := .agg #[.pointer (some ⟨b, 0, none⟩)]
theorem meths (P : PS) (b : Nat) (W : World) :
    (method 266 (tyO P.kind) (rv b) "Do").run Try.prog W = .ok (fDo P.kind, rv b) W ∧
    (method 266 (tyO P.kind) (rv b) "Save").run Try.prog W = .ok (fSave P.kind, pv b) W ∧
    (method 266 (tyO P.kind) (rv b) "Clone").run Try.prog W = .ok (fClone P.kind, rv b) W ∧
    (method 266 (tyO P.kind) (rv b) "Kind").run Try.prog W = .ok (fKind P.kind, rv b) W := by
  cases P
  · exact ⟨by kernel_rfl, by kernel_rfl, by kernel_rfl, by kernel_rfl⟩
  · exact ⟨by kernel_rfl, by kernel_rfl, by kernel_rfl, by kernel_rfl⟩
  · exact ⟨by kernel_rfl, by kernel_rfl, by kernel_rfl, by kernel_rfl⟩
end Go.Proofs.Yteggenihjhclkaa
