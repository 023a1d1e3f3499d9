/- Sum, walked: of all accounts. -/
import Derived.Test.YtlalbmgopbcplaaSdo
import Derived.Test.YtlalbmgopbcplaaSnm
set_option maxRecDepth 16000
set_option linter.unusedVariables false
set_option linter.unusedSimpArgs false
namespace Go.Proofs.Ytlalbmgopbcplaa
open Go.RowKit Go.Maps
variable {C : Nm → Int} {K : List Nm} {w0 w w' : World} {s mb n : Nat} {D : Dm} {o : Op4}
def sumK (C : Nm → Int) (K : List Nm) : Int := (K.map C).sum
theorem sum_cons (C : Nm → Int) (x : Nm) (L : List Nm) : sumK C (x :: L) = C x + sumK C L := by simp [sumK]
theorem sum_perm (C : Nm → Int) {L K : List Nm} (h : L.Perm K) : sumK C L = sumK C K := by
  induction h with
  | nil => rfl
  | cons x _ ih => rw [sum_cons, sum_cons, ih]
  | swap x y l => rw [sum_cons, sum_cons, sum_cons, sum_cons]; omega
  | trans _ _ ih1 ih2 => exact ih1.trans ih2
theorem sum_bound (h : Sh w0 w s mb n C K) (hn : n ≤ 1000) : ∀ L : List Nm, L.length ≤ 20 → -((L.length : Int) * 1200000000000000) ≤ sumK C L ∧ sumK C L ≤ (L.length : Int) * 1200000000000000
  | [], _ => by simp [sumK]
  | x :: L, hl => by
    have h1 := val_bound h hn x
    simp only [List.length_cons] at hl
    have h2 := sum_bound h hn L (by omega)
    rw [sum_cons, List.length_cons]
    omega
theorem same_perm {L K : List Nm} (hL : L.Nodup) (hK : K.Nodup) (h : ∀ x, x ∈ L ↔ x ∈ K) : L.Perm K :=
  List.perm_iff_count.2 fun x => by
    rw [hL.count, hK.count]
    by_cases hx : x ∈ L
    · rw [if_pos hx, if_pos ((h x).1 hx)]
    · rw [if_neg hx, if_neg fun e => hx ((h x).2 e)]
/-- In the middle of the range. -/
structure SumW (w wr : World) (mb rb n : Nat) (D : Dm) (K L : List Nm) (left : Lit → Bool) (k : Nat) : Prop where
  rg : wr.ranges Try.prog 9 (plainElem (H := Unit) Try.prog 3) mb rb n D left k
  tn : Turn Nope w wr
  nd : L.Nodup
  out : ∀ x ∈ L, x ∈ K ∧ left (.string x) = false
  all : ∀ x ∈ K, x ∈ L ∨ left (.string x) = true
  len : L.length + k ≤ 20
  wb : w.heap.size ≤ rb
set_option maxHeartbeats 8000000 in
theorem sum_any (h : Sh w0 w s mb n C K) (hn : n ≤ 1000) : Calls Try.prog 15 #[.pointer (some ⟨s, 0, none⟩)] w fun e w' => e = .returned (.int .i64 (sumK C K)) ∧ Turn Nope w w' := by
  obtain ⟨D, hD⟩ := h.map
  have H0 := Lib.hid h
  have HD := Lib.hid hD
  have HN := Lib.hid hn
  have c0 := h.cell
  clear h hD hn
  go_enter Try.func15, Try.ntmps15
  go_wp2_with (first | (at_range; refine wpList_range_own _ rfl _ 44 rfl 9 3 law9 Try.underlying44 _ mb _ D rfl HD.out.own ?_; intro w5 hrg hgr hs5; have HR := Lib.hid hrg; have HG := Lib.hid hgr; have HS5 := Lib.hid hs5; clear hrg hgr hs5) | fail)
  go_frame
  clear c0
  obtain ⟨rb, hrb⟩ : ∃ rb, w.heap.size = rb := ⟨_, rfl⟩
  rw [hrb] at HR HS5 ⊢
  have HRB := Lib.hid hrb
  clear hrb
  have HW0 : Hid (SumW w w5 mb rb n D K [] (Maps.has D) (Maps.size D)) :=
    ⟨HR.out, (Turn.refl _ _).grown HG.out (fun k hk => by cases hk), List.nodup_nil, fun x hx => (by cases hx), fun x hx => .inr ((HD.out.has x).2 hx), by rw [HD.out.len]; have := H0.out.good.le; simp; omega, Nat.le_of_eq HRB.out⟩
  go_loopg [3] (Maps.size D) (fun k v3 wr => ∃ left L, v3 = .int .i64 (sumK C L) ∧ Hid (SumW w wr mb rb n D K L left k))
  case atStart => exact ⟨_, [], rfl, HW0.out⟩
  case round =>
    obtain ⟨left, L, rfl, hW⟩ := hrel
    clear HW0 HR HG HS5
    go_wp2_with (first | (at_next; refine wpList_next_ranges _ rfl _ rfl 9 law9 (plainElem (H := Unit) Try.prog 3) (fun x : Nm => Value.string ⟨x.toArray⟩) (Value.int .i64) (fun key kl hkey => by obtain ⟨x, rfl, _⟩ := Maps.keyOf_str Try.underlying9 hkey; exact ⟨x, rfl⟩) (fun v y hv => by obtain ⟨c, rfl, _⟩ := plainElem_int_inv Try.underlying3 hv; exact ⟨c, rfl⟩) mb rb n D left _ rfl hW.out.rg ?_ ?_) | fail)
    · intro hc0 hl0
      have HP : Hid (sumK C L = sumK C K) := sum_perm C (same_perm hW.out.nd H0.out.good.nd fun x => ⟨fun hx => (hW.out.out x hx).1, fun hx => by
        rcases hW.out.all x hx with h1 | h1
        · exact h1
        · rw [hl0] at h1; cases h1⟩)
      clear hc0 hl0
      go_wp2_with fail
      go_ret
      exact ⟨by rw [← HP.out]; rfl, hW.out.tn⟩
    · intro x c kl y1 y2 w7 cnt1 hkey hlk hv hat hrg1 hlt1 hg1 hs1 hen
      obtain ⟨x', ex, rfl, hxl⟩ := Maps.keyOf_str Try.underlying9 hkey
      have ex : x = x' := by
        have ex : Value.string ⟨x.toArray⟩ = Value.string ⟨x'.toArray⟩ := ex
        injection ex with ex
        injection ex with ex
        have := congrArg Array.toList ex
        simpa using this
      subst ex
      have hcc : c = C x := by
        have h1 := HD.out.val x
        rw [hat] at h1
        obtain ⟨c', ec, hz, _⟩ := plainElem_int_inv Try.underlying3 hv
        cases ec
        injection hz with hz _
        rw [hz] at h1
        injection h1 with h1
        injection h1 with _ h1
      subst hcc
      have HP : Hid (SumW w w7 mb rb n D K (x :: L) (fun z => left z && !z.sameKey (.string x)) cnt1) := by
        have hxl : x ∉ L := fun hx => by have := (hW.out.out x hx).2; rw [hlk] at this; cases this
        have hxk : x ∈ K := (HD.out.has x).1 (has_true_of_atKey hat)
        refine ⟨hrg1, hW.out.tn.grown hg1 fun k hk => .inr (by injection hk with hk; subst hk; exact hW.out.wb), List.nodup_cons.2 ⟨hxl, hW.out.nd⟩, fun y hy => ?_, fun y hy => ?_, by have := hW.out.len; simp only [List.length_cons]; omega, hW.out.wb⟩
        · rcases List.mem_cons.1 hy with rfl | hy
          · exact ⟨hxk, by simp [Lit.sameKey]⟩
          · exact ⟨(hW.out.out y hy).1, by rw [(hW.out.out y hy).2]; rfl⟩
        · by_cases hyx : y = x
          · exact .inl (List.mem_cons.2 (.inl hyx))
          · rcases hW.out.all y hy with h1 | h1
            · exact .inl (List.mem_cons_of_mem _ h1)
            · exact .inr (by show (left _ && !_) = true; rw [h1, sameKey_ne (fun e => hyx (by injection e))]; rfl)
      have HL1 := Lib.hid hlt1
      have hb := sum_bound H0.out HN.out (x :: L) (by have := hW.out.len; simp only [List.length_cons]; omega)
      have hb2 : (x :: L).length ≤ 21 := by have := hW.out.len; simp only [List.length_cons]; omega
      obtain ⟨S2, hS2⟩ : ∃ S2, sumK C (x :: L) = S2 := ⟨_, rfl⟩
      have hS3 : sumK C L + C x = S2 := by rw [← hS2, sum_cons]; omega
      rw [hS2] at hb
      have hw : wrap64 (sumK C L + C x) = S2 := by rw [hS3]; exact IntWalk.wrap64_in _ ⟨by omega, by omega⟩
      have hw' : IntKind.i64.wrap (sumK C L + C x) = S2 := by rw [hS3]; exact IntWalk.i64_in _ ⟨by omega, by omega⟩
      have HS2 := Lib.hid hS2
      clear hkey hlk hv hat hrg1 hg1 hs1 hlt1 hb hb2 hS2 hS3 hxl
      go_wp2_with fail
      go_roundg cnt1
      case measure => exact HL1.out
      case rel => exact ⟨_, x :: L, by rw [HS2.out], HP.out⟩
end Go.Proofs.Ytlalbmgopbcplaa
