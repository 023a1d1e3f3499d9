/- A law's arguments that are slices: each element's cells, as the walk reads them. -/
import Derived.Test.YteggenihjhclkaaLib
import Derived.Deep.Slices
import Derived.ChangeSame
import Derived.ChangeArms
import Derived.ProofKit
namespace Go.Proofs.Yteggenihjhclkaa
open Go.RowKit Go.ChangeShapes Go.WideShapes Go.Deep

section
variable {H : Type} {enc : TypeId × Value → H} {P : Program} {w : World}
theorem open_elems {t e sz : Nat} {a : Option Addr} {len cap : Nat} {d : DataW H} {p : List MemPlace} (ht : P.underlying t = some (.slice e)) (hC : P.cellsOf e = sz)
    (h : DataW.Trod enc P w 0 (fun _ => true) true t (.slice a len cap) d p) :
    len ≤ maxLen ∧ len ≤ cap ∧ ∀ i, i < len → ∃ (ad : Addr) (cs : List Value) (n : Nat) (y : DataW H × List MemPlace), a = some ad ∧ cs.length = sz ∧
      (∀ j, j < sz → w.cell? (ad.add (i * sz + j)) = cs[j]?) ∧ DataW.trod enc P w 0 (fun _ => true) true n e cs = some y := by
  obtain ⟨fuel, hf⟩ := h
  rcases open_slice ht hf with ⟨hcs, _⟩ | ⟨ad, l, c, m, n, D, Pl, hcs, _, hl, hm, hmm, _, hi⟩
  · simp [Value.cells] at hcs
    obtain ⟨rfl, rfl, rfl⟩ := hcs
    exact ⟨Nat.zero_le _, Nat.le_refl _, fun i hi => absurd hi (Nat.not_lt_zero i)⟩
  · simp [Value.cells] at hcs
    obtain ⟨rfl, rfl, rfl⟩ := hcs
    refine ⟨Nat.le_trans hl hm, hl, fun i hil => ?_⟩
    obtain ⟨cs', hc, ht'⟩ := hi i (by rw [hmm]; simp; omega)
    rw [hC] at hc
    obtain ⟨_, hcl, hat⟩ := World.cells?_some hc
    exact ⟨ad, cs', n, _, rfl, hcl, fun j hj => by rw [← Go.Deep.add_add]; exact hat j hj, ht'⟩
theorem leaf_int {t n i : Nat} {k : IntKind} {c : Value} {xs : List (DataW H × List MemPlace)} (hu : P.underlying t = some (.int k)) (h : DataW.trod enc P w 0 (fun _ => true) true n t [c] = xs[i]?) (hi : i < xs.length) : ∃ x, c = .int k x ∧ (Lit.int k x).wf = true := by
  obtain ⟨x, hc, _, hw⟩ := DataW.trod_int hu (h.trans (List.getElem?_eq_getElem hi))
  exact ⟨x, by simpa using hc, hw⟩
theorem leaf_str {t n i : Nat} {c : Value} {xs : List (DataW H × List MemPlace)} (hu : P.underlying t = some .string) (h : DataW.trod enc P w 0 (fun _ => true) true n t [c] = xs[i]?) (hi : i < xs.length) : ∃ x : ByteArray, c = .string x ∧ x.size ≤ maxLen := by
  obtain ⟨x, hc, _, hw⟩ := DataW.trod_string hu (h.trans (List.getElem?_eq_getElem hi))
  exact ⟨x, by simpa using hc, hw⟩
theorem leaf_bool {t n i : Nat} {c : Value} {xs : List (DataW H × List MemPlace)} (hu : P.underlying t = some .bool) (h : DataW.trod enc P w 0 (fun _ => true) true n t [c] = xs[i]?) (hi : i < xs.length) : ∃ x : Bool, c = .bool x := by
  obtain ⟨x, hc, _⟩ := DataW.trod_bool hu (h.trans (List.getElem?_eq_getElem hi))
  exact ⟨x, by simpa using hc⟩
end
theorem add_off (ad : Addr) (m j : Nat) (hj : 0 < j) : ad.add (m + j) = ⟨(ad.add m).block, (ad.add m).off + j, none⟩ := by
  unfold Addr.add
  rw [if_neg (by omega)]
  by_cases hm : m = 0
  · subst hm
    simp
  · rw [if_neg hm]
    simp [Nat.add_assoc]
/-- What was there when the call began is read in any later world below whose size nothing has turned. -/
theorem cell_later {w w' : World} (hb : Below w.heap.size w w') {p : Addr} {v : Value} (hc : w.cell? p = some v) : w'.cell? p = some v := (hb.cell (World.block_lt_of_cell? w p hc)).trans hc
end Go.Proofs.Yteggenihjhclkaa
