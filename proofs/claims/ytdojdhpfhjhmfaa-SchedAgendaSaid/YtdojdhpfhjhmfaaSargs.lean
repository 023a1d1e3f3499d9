/- Slices that come in to a law on schedules, as the walk reads them; few. -/
import Derived.Test.YtdojdhpfhjhmfaaOpen
import Derived.Test.YtdojdhpfhjhmfaaSaw
set_option maxRecDepth 16000
set_option linter.unusedVariables false
namespace Go.Proofs.Ytdojdhpfhjhmfaa
open Go.RowKit Go.ChangeShapes Go.WideShapes Go.Deep
/-- Numbers that came in. -/
def IntsIn (w : World) (a : Option Addr) (len : Nat) : Prop := len ≤ maxLen ∧ ∃ ps : List Int, ps.length = len ∧ NumsAt w a ps ∧ ∀ p ∈ ps, (Lit.int .i64 p).wf = true
def StrsIn (w : World) (a : Option Addr) (len : Nat) : Prop := len ≤ maxLen ∧ ∃ ps : List ByteArray, ps.length = len ∧ ∀ (j : Nat) (x : ByteArray), ps[j]? = some x → ∃ ad : Addr, a = some ad ∧ w.cell? (ad.add j) = some (.string x) ∧ x.size ≤ maxLen
def ActsIn (w : World) (a : Option Addr) (len : Nat) : Prop := len ≤ maxLen ∧ ∀ i, i < len → ∃ (ad : Addr) (k t who : Int), a = some ad ∧
  w.cell? (ad.add (i * 3)) = some (.int .i64 k) ∧ w.cell? ⟨(ad.add (i * 3)).block, (ad.add (i * 3)).off + 1, none⟩ = some (.int .i64 t) ∧ w.cell? ⟨(ad.add (i * 3)).block, (ad.add (i * 3)).off + 2, none⟩ = some (.int .i64 who)
theorem list_of {α : Type} (d : α) {Q : Nat → α → Prop} : ∀ n : Nat, (∀ i, i < n → ∃ x, Q i x) → ∃ l : List α, l.length = n ∧ ∀ j x, l[j]? = some x → Q j x := fun n h => by
  classical
  refine ⟨(List.range n).map fun i => if hi : i < n then (h i hi).choose else d, by simp, fun j x hj => ?_⟩
  rw [List.getElem?_map] at hj
  by_cases hjn : j < n
  · rw [List.getElem?_range hjn] at hj
    simp only [Option.map_some, dif_pos hjn] at hj
    injection hj with hj
    subst hj
    exact (h j hjn).choose_spec
  · rw [List.getElem?_eq_none (by simpa using hjn)] at hj
    cases hj
section
variable {H : Type} {enc : TypeId × Value → H} {w : World} {a : Option Addr} {len cap : Nat} {d : DataW H} {p : List MemPlace}
theorem open_t22 (h : DataW.Trod enc Try.prog w 0 (fun _ => true) true 22 (.slice a len cap) d p) : IntsIn w a len ∧ len ≤ cap := by
  obtain ⟨hm, hcap, he⟩ := open_elems (sz := 1) Try.underlying22 (by kernel_rfl) h
  refine ⟨⟨hm, ?_⟩, hcap⟩
  obtain ⟨l, hl, hx⟩ := list_of (0 : Int) (Q := fun i x => (∃ ad : Addr, a = some ad ∧ w.cell? (ad.add i) = some (.int .i64 x)) ∧ (Lit.int .i64 x).wf = true) len fun i hi => by
    obtain ⟨ad, cs, n, y, ha, hl, hc, ht⟩ := he i hi
    match cs, hl with
    | [c0], _ =>
      obtain ⟨x, rfl, hx⟩ := leaf_int (xs := [y]) (i := 0) Try.underlying3 ht (by simp)
      have := hc 0 (by omega)
      rw [Nat.mul_one, Nat.add_zero] at this
      exact ⟨x, ⟨ad, ha, this⟩, hx⟩
  refine ⟨l, hl, fun j x hj => (hx j x hj).1, fun p hp => ?_⟩
  obtain ⟨j, hj⟩ := List.getElem?_of_mem hp
  exact (hx j p hj).2
theorem open_t53 (h : DataW.Trod enc Try.prog w 0 (fun _ => true) true 53 (.slice a len cap) d p) : StrsIn w a len := by
  obtain ⟨hm, _, he⟩ := open_elems (sz := 1) Try.underlying53 (by kernel_rfl) h
  refine ⟨hm, ?_⟩
  obtain ⟨l, hl, hx⟩ := list_of (⟨#[]⟩ : ByteArray) (Q := fun i x => ∃ ad : Addr, a = some ad ∧ w.cell? (ad.add i) = some (.string x) ∧ x.size ≤ maxLen) len fun i hi => by
    obtain ⟨ad, cs, n, y, ha, hl, hc, ht⟩ := he i hi
    match cs, hl with
    | [c0], _ =>
      obtain ⟨x, rfl, hx⟩ := leaf_str (xs := [y]) (i := 0) Try.underlying9 ht (by simp)
      have := hc 0 (by omega)
      rw [Nat.mul_one, Nat.add_zero] at this
      exact ⟨x, ad, ha, this, hx⟩
  exact ⟨l, hl, hx⟩
theorem open_t37 (h : DataW.Trod enc Try.prog w 0 (fun _ => true) true 37 (.slice a len cap) d p) : ActsIn w a len := by
  obtain ⟨hm, _, he⟩ := open_elems (sz := 3) Try.underlying37 (by kernel_rfl) h
  refine ⟨hm, fun i hi => ?_⟩
  obtain ⟨ad, cs, n, y, ha, hl, hc, ht⟩ := he i hi
  obtain ⟨xs, n', _, _, _, hxl, hf⟩ := DataW.trod_struct Try.underlying43 ht
  have hxl4 : xs.length = 3 := hxl
  match cs, hl with
  | [c0, c1, c2], _ =>
    have h3 : Try.prog.cellsOf 3 = 1 := by kernel_rfl
    have f0 : DataW.trod enc Try.prog w 0 (fun _ => true) true n' 3 [c0] = xs[0]? := (show ((([c0, c1, c2] : List Value).drop 0).take (Try.prog.cellsOf 3)) = [c0] by rw [h3]; rfl) ▸ hf 0 _ rfl
    have f1 : DataW.trod enc Try.prog w 0 (fun _ => true) true n' 3 [c1] = xs[1]? := (show ((([c0, c1, c2] : List Value).drop 1).take (Try.prog.cellsOf 3)) = [c1] by rw [h3]; rfl) ▸ hf 1 _ rfl
    have f2 : DataW.trod enc Try.prog w 0 (fun _ => true) true n' 3 [c2] = xs[2]? := (show ((([c0, c1, c2] : List Value).drop 2).take (Try.prog.cellsOf 3)) = [c2] by rw [h3]; rfl) ▸ hf 2 _ rfl
    obtain ⟨k, rfl, hk⟩ := leaf_int Try.underlying3 f0 (by omega)
    obtain ⟨t, rfl, hk⟩ := leaf_int Try.underlying3 f1 (by omega)
    obtain ⟨who, rfl, hk⟩ := leaf_int Try.underlying3 f2 (by omega)
    exact ⟨ad, k, t, who, ha, hc 0 (by omega), by rw [← add_off _ _ 1 (by omega)]; exact hc 1 (by omega), by rw [← add_off _ _ 2 (by omega)]; exact hc 2 (by omega)⟩
end
variable {w w' : World} {A : Option Addr} {ps : List Int}
theorem NumsAt.take (h : NumsAt w A ps) (k : Nat) : NumsAt w A (ps.take k) := fun j x hj => h j x (by
  rw [List.getElem?_take] at hj
  split at hj
  · exact hj
  · cases hj)
/-- At most 6 paces. -/
theorem few_any (h : NumsAt w A ps) (cap : Nat) (hc : ps.length ≤ cap) (hm : ps.length ≤ maxLen) : Calls Try.prog 9 #[.slice A ps.length cap] w fun e w' => ∃ c, e = .returned (.slice A (ps.take 6).length c) ∧ w = w' := by
  unfold maxLen at hm
  by_cases h6 : ps.length > 6
  · have b1 : decide ((ps.length : Int) > 6) = true := by simp; omega
    have b1' : decide ((6 : Int) < (ps.length : Int)) = true := by simp; omega
    have b1n : decide (6 < ps.length) = true := by simp; omega
    have p1 : (6 : Int) ≤ (cap : Int) := by omega
    have HL : Hid ((ps.take 6).length = 6) := by show _ = _; rw [List.length_take]; omega
    clear h h6
    go_enter Try.func9, Try.ntmps9
    go_wp2_with fail
    go_ret
    exact ⟨cap, by rw [HL.out]; rfl, rfl⟩
  · have b1 : decide ((ps.length : Int) > 6) = false := by simp; omega
    have b1' : decide ((6 : Int) < (ps.length : Int)) = false := by simp; omega
    have b1n : decide (6 < ps.length) = false := by simp; omega
    have HL : Hid ((ps.take 6).length = ps.length) := by show _ = _; rw [List.length_take]; omega
    clear h h6
    go_enter Try.func9, Try.ntmps9
    go_wp2_with fail
    go_ret
    exact ⟨cap, by rw [HL.out]; rfl, rfl⟩
theorem sch_tick {w0 w : World} {s q : Nat} {pv : Value} {P : List Int} {S : Stt} (h : Sch w0 w s q pv P S) : Calls Try.prog 12 #[.pointer (some ⟨s, 0, none⟩)] w fun e w' => e = .returned (.int .i64 S.t) ∧ w' = w := by
  refine (sb_tick h.at_).mono ?_
  rintro e w' ⟨he, hw⟩
  exact ⟨he, hw.symm⟩
theorem sch_len {w0 w : World} {s q : Nat} {pv : Value} {P : List Int} {S : Stt} (h : Sch w0 w s q pv P S) : Calls Try.prog 14 #[.pointer (some ⟨q, 0, none⟩)] w fun e w' => e = .returned (.int .i64 (S.l.length : Int)) ∧ w = w' := one_len h.at_.one
end Go.Proofs.Ytdojdhpfhjhmfaa
