/- Apart, walked: do two ops touch nothing in common? -/
import Derived.Test.YteggenihjhclkaaOf
import Derived.Test.YteggenihjhclkaaLg
set_option maxRecDepth 16000
set_option linter.unusedVariables false
set_option linter.unusedSimpArgs false
namespace Go.Proofs.Yteggenihjhclkaa
open Go.RowKit Go.Maps
open Lg (Nm nmOf arr_nm nm_len)
variable {w0 w w' W W' : World} {b m c : Nat} {P Q R : PS}
/-- A row of texts. -/
def SRow (W : World) (A : Option Addr) (L : List Nm) : Prop := ∀ j x, L[j]? = some x → ∃ g, A = some ⟨g, 0, none⟩ ∧ W.cell? ⟨g, j, none⟩ = some (.string ⟨x.toArray⟩)
theorem SRow.later {A : Option Addr} {L : List Nm} (h : SRow W A L) (ht : Turn Nope W W') : SRow W' A L := fun j x hj => by
  obtain ⟨g, h1, h2⟩ := h j x hj
  exact ⟨g, h1, cell_later ht.nopeBelow h2⟩
theorem own_form {base e size n : Nat} {A : Option Addr} {c : Nat} {xs : List Value} (h : w.ownsRow base e size (.slice A n c) n xs) (hn : 0 < n) : ∃ g, A = some ⟨g, 0, none⟩ := by
  rcases h.2 with ⟨he, h0⟩ | ⟨g, cap, cur, he, _⟩
  · omega
  · simp only [Value.slice.injEq] at he
    exact ⟨g, he.1⟩
theorem SRow.own {base : Nat} {A : Option Addr} {c : Nat} {L : List Nm} (h : W.ownsRow base 9 1 (.slice A L.length c) L.length (Lg.encs L)) : SRow W A L := fun j x hj => by
  have hlt := (List.getElem?_eq_some_iff.1 hj).1
  obtain ⟨g, rfl⟩ := own_form h (by omega)
  exact ⟨g, rfl, own_elem h j (u := encStr x) (by simp [Lg.encs, hj])⟩
set_option maxHeartbeats 4000000 in
theorem index_any {A : Option Addr} {L : List Nm} (c : Nat) (hL : SRow W A L) (hc : L.length ≤ c) (hn : L.length ≤ 1000) (Y : ByteArray) :
    Calls Try.prog 36 #[.slice A L.length c, .string Y] W fun e w' => ∃ r : Int, e = .returned (.int .i64 r) ∧ (0 ≤ r ↔ nmOf Y ∈ L) ∧ W = w' := by
  have HL := Lib.hid (And.intro hL (And.intro hc hn))
  clear hL hc hn
  go_enter Try.func36, Try.ntmps36
  go_wp2_with fail
  go_loopg [8] L.length (fun kk v8 wr => ∃ i : Nat, v8 = .int .i64 (i : Int) ∧ Hid (kk + i = L.length ∧ ∀ x ∈ L.take i, nmOf Y ≠ x) ∧ Hid (W = wr))
  case atStart => exact ⟨0, rfl, ⟨rfl, fun x hx => by simp at hx⟩, rfl⟩
  case round =>
    obtain ⟨i, rfl, hk, hW⟩ := hrel
    obtain rfl := hW.out
    by_cases hlt : i < L.length
    · have b1 : decide ((i : Int) < (L.length : Int)) = true := by simp; omega
      have b1n : decide (i < L.length) = true := by simp; omega
      have i0 : (0 : Int) ≤ (i : Int) := by omega
      have i1 : (i : Int) < (L.length : Int) := by omega
      have hcc := HL.out.2.1
      have i2 : (i : Int) < (c : Int) := by omega
      have hw : wrap64 ((i : Int) + 1) = (i : Int) + 1 := IntWalk.wrap64_in _ ⟨by omega, by have := HL.out.2.2; omega⟩
      have HWR := Lib.hid hw
      have HI := Lib.hid hlt
      obtain ⟨x, hx⟩ : ∃ x, L[i]? = some x := ⟨_, List.getElem?_eq_getElem hlt⟩
      have HX := Lib.hid hx
      obtain ⟨g, rfl, c0⟩ := HL.out.1 i x hx
      clear hlt hw hx hcc
      by_cases hxy : nmOf Y = x
      · have z0 : (nmOf Y == x) = true := by simpa using hxy
        have z1 : (Y.toList == x) = true := by rw [Lg.tl]; exact z0
        have HM : Hid (nmOf Y ∈ L) := by show nmOf Y ∈ L; rw [hxy]; exact List.mem_of_getElem? HX.out
        clear hxy
        go_wp2_with fail
        go_ret
        exact ⟨(i : Int), rfl, ⟨fun _ => HM.out, fun _ => by omega⟩, rfl⟩
      · have z0 : (nmOf Y == x) = false := by simpa using hxy
        have z1 : (Y.toList == x) = false := by rw [Lg.tl]; exact z0
        have HXY := Lib.hid hxy
        clear hxy
        go_wp2_with fail
        have hw := HWR.out
        go_wp2_with fail
        go_roundg (L.length - (i + 1))
        case measure => have := hk.out.1; have := HI.out; omega
        case rel =>
          refine ⟨i + 1, by go_num, ⟨by have := hk.out.1; have := HI.out; omega, fun z hz => ?_⟩, rfl⟩
          rw [List.take_add_one, HX.out, List.mem_append] at hz
          rcases hz with hz | hz
          · exact hk.out.2 z hz
          · simp at hz; rw [hz]; exact HXY.out
    · have b1 : decide ((i : Int) < (L.length : Int)) = false := by simp; omega
      have b1n : decide (i < L.length) = false := by simp; omega
      have HN : Hid (¬ nmOf Y ∈ L) := fun hm => hk.out.2 (nmOf Y) (by rw [List.take_of_length_le (by omega)]; exact hm) rfl
      clear hlt
      go_wp2_with fail
      go_ret
      exact ⟨-1, rfl, ⟨fun h => absurd h (by decide), fun h => absurd h HN.out⟩, rfl⟩
theorem contains_any {A : Option Addr} {L : List Nm} (c : Nat) (hL : SRow W A L) (hc : L.length ≤ c) (hn : L.length ≤ 1000) (Y : ByteArray) :
    Calls Try.prog 22 #[.slice A L.length c, .string Y] W fun e w' => e = .returned (.bool (decide (nmOf Y ∈ L))) ∧ W = w' := by
  have HI := Lib.hid (index_any c hL hc hn Y)
  clear hL hc hn
  go_enter Try.func22, Try.ntmps22
  go_wp2_with fail
  refine HI.out.mono ?_
  rintro e w2 ⟨r, rfl, hr, rfl⟩
  have hb : decide (r ≥ 0) = decide (nmOf Y ∈ L) := by
    rw [Bool.eq_iff_iff, decide_eq_true_iff, decide_eq_true_iff]; exact hr
  have hb2 : decide (0 ≤ r) = decide (nmOf Y ∈ L) := hb
  have HR := Lib.hid hb2
  clear hr HI hb hb2
  go_wp2_with fail
  go_ret
  exact ⟨by rw [← HR.out]; rfl, rfl⟩
theorem clos_any {A : Option Addr} {L : List Nm} (c q : Nat) (hL : SRow W A L) (hc : L.length ≤ c) (hn : L.length ≤ 1000) (hq : W.cell? ⟨q, 0, none⟩ = some (.slice A L.length c)) (Y : ByteArray) :
    Calls Try.prog 21 #[.string Y, .pointer (some ⟨q, 0, none⟩)] W fun e w' => e = .returned (.bool (decide (nmOf Y ∈ L))) ∧ W = w' := by
  have HI := Lib.hid (contains_any c hL hc hn Y)
  clear hL hc hn
  go_enter Try.func21, Try.ntmps21
  go_wp2_with fail
  refine HI.out.mono ?_
  rintro e w2 ⟨rfl, rfl⟩
  go_wp2_with fail
  go_ret
  exact ⟨rfl, rfl⟩
set_option maxHeartbeats 4000000 in
theorem indexf_any {A A2 : Option Addr} {L L2 : List Nm} (c c2 q : Nat) (hL : SRow W A L) (hc : L.length ≤ c) (hn : L.length ≤ 1000)
    (hL2 : SRow W A2 L2) (hc2 : L2.length ≤ c2) (hn2 : L2.length ≤ 1000) (hq : W.cell? ⟨q, 0, none⟩ = some (.slice A2 L2.length c2)) :
    Calls Try.prog 35 #[.slice A L.length c, .func (.func 21) #[] #[.pointer (some ⟨q, 0, none⟩)]] W fun e w' => ∃ r : Int, e = .returned (.int .i64 r) ∧ (0 ≤ r ↔ ∃ x ∈ L, x ∈ L2) ∧ W = w' := by
  have HL := Lib.hid (And.intro hL (And.intro hc hn))
  have HC := Lib.hid (clos_any c2 q hL2 hc2 hn2 hq)
  clear hL hc hn hL2 hc2 hn2 hq
  go_enter Try.func35, Try.ntmps35
  go_wp2_with fail
  go_loopg [8] L.length (fun kk v8 wr => ∃ i : Nat, v8 = .int .i64 (i : Int) ∧ Hid (kk + i = L.length ∧ ∀ x ∈ L.take i, ¬ x ∈ L2) ∧ Hid (W = wr))
  case atStart => exact ⟨0, rfl, ⟨rfl, fun x hx => by simp at hx⟩, rfl⟩
  case round =>
    obtain ⟨i, rfl, hk, hW⟩ := hrel
    obtain rfl := hW.out
    by_cases hlt : i < L.length
    · have b1 : decide ((i : Int) < (L.length : Int)) = true := by simp; omega
      have b1n : decide (i < L.length) = true := by simp; omega
      have i0 : (0 : Int) ≤ (i : Int) := by omega
      have i1 : (i : Int) < (L.length : Int) := by omega
      have hcc := HL.out.2.1
      have i2 : (i : Int) < (c : Int) := by omega
      have hw : wrap64 ((i : Int) + 1) = (i : Int) + 1 := IntWalk.wrap64_in _ ⟨by omega, by have := HL.out.2.2; omega⟩
      have HWR := Lib.hid hw
      have HI := Lib.hid hlt
      obtain ⟨x, hx⟩ : ∃ x, L[i]? = some x := ⟨_, List.getElem?_eq_getElem hlt⟩
      have HX := Lib.hid hx
      obtain ⟨g, rfl, c0⟩ := HL.out.1 i x hx
      clear hlt hw hx hcc
      go_wp2_with fail
      refine (HC.out ⟨x.toArray⟩).mono ?_
      rintro e w2 ⟨rfl, rfl⟩
      rw [show nmOf ⟨x.toArray⟩ = x by unfold nmOf; simp]
      clear c0 i0 i1 i2 b1 b1n
      by_cases hxy : x ∈ L2
      · have z0 : decide (x ∈ L2) = true := by simpa using hxy
        have HM : Hid (∃ x ∈ L, x ∈ L2) := ⟨x, List.mem_of_getElem? HX.out, hxy⟩
        rw [z0]
        clear hxy z0
        go_wp2_with fail
        go_ret
        exact ⟨(i : Int), rfl, ⟨fun _ => HM.out, fun _ => by omega⟩, rfl⟩
      · have z0 : decide (x ∈ L2) = false := by simpa using hxy
        have HXY := Lib.hid hxy
        rw [z0]
        clear hxy z0
        go_wp2_with fail
        have hw := HWR.out
        go_wp2_with fail
        go_roundg (L.length - (i + 1))
        case measure => have := hk.out.1; have := HI.out; omega
        case rel =>
          refine ⟨i + 1, by go_num, ⟨by have := hk.out.1; have := HI.out; omega, fun z hz => ?_⟩, rfl⟩
          rw [List.take_add_one, HX.out, List.mem_append] at hz
          rcases hz with hz | hz
          · exact hk.out.2 z hz
          · simp at hz; rw [hz]; exact HXY.out
    · have b1 : decide ((i : Int) < (L.length : Int)) = false := by simp; omega
      have b1n : decide (i < L.length) = false := by simp; omega
      have HN : Hid (¬ ∃ x ∈ L, x ∈ L2) := fun ⟨x, hx, h2⟩ => hk.out.2 x (by rw [List.take_of_length_le (by omega)]; exact hx) h2
      clear hlt
      go_wp2_with fail
      go_ret
      exact ⟨-1, rfl, ⟨fun h => absurd h (by decide), fun h => absurd h HN.out⟩, rfl⟩
theorem containsf_any {A A2 : Option Addr} {L L2 : List Nm} (c c2 q : Nat) (hL : SRow W A L) (hc : L.length ≤ c) (hn : L.length ≤ 1000)
    (hL2 : SRow W A2 L2) (hc2 : L2.length ≤ c2) (hn2 : L2.length ≤ 1000) (hq : W.cell? ⟨q, 0, none⟩ = some (.slice A2 L2.length c2)) :
    Calls Try.prog 20 #[.slice A L.length c, .func (.func 21) #[] #[.pointer (some ⟨q, 0, none⟩)]] W fun e w' => e = .returned (.bool (decide (∃ x ∈ L, x ∈ L2))) ∧ W = w' := by
  have HI := Lib.hid (indexf_any c c2 q hL hc hn hL2 hc2 hn2 hq)
  clear hL hc hn hL2 hc2 hn2 hq
  go_enter Try.func20, Try.ntmps20
  go_wp2_with fail
  refine HI.out.mono ?_
  rintro e w2 ⟨r, rfl, hr, rfl⟩
  have HR : Hid (decide (0 ≤ r) = decide (∃ x ∈ L, x ∈ L2)) := by
    show _ = _
    rw [Bool.eq_iff_iff, decide_eq_true_iff, decide_eq_true_iff]; exact hr
  clear hr HI
  go_wp2_with fail
  go_ret
  exact ⟨by rw [← HR.out]; rfl, rfl⟩
end Go.Proofs.Yteggenihjhclkaa
