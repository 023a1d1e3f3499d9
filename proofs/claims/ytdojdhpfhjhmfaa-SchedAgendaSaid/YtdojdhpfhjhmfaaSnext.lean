/- Whose turn it is: the walk of Next. -/
import Derived.Test.YtdojdhpfhjhmfaaSdue
set_option maxRecDepth 16000
set_option linter.unusedVariables false
namespace Go.Proofs.Ytdojdhpfhjhmfaa
open Go.RowKit
variable {w w' w0 : World} {s q n : Nat} {P : List Int} {t : Int} {l : List Thing} {pv : Value}
set_option maxHeartbeats 4000000 in
theorem sb_next_none (h : SB w0 w s q pv P t [] n) : Calls Try.prog 11 #[.pointer (some ⟨s, 0, none⟩)] w fun e w' => e = .returned (.tuple #[.int .i64 0, .bool false]) ∧ w = w' := by
  have c0 := blk_cell h.hs 0
  simp only [List.getElem?_toArray, List.getElem?_cons_zero] at c0
  have HS := Lib.hid h
  clear h
  go_enter Try.func11, Try.ntmps11
  go_wp2_with fail
  refine (one_take_none HS.out.one).mono ?_
  rintro e w1 ⟨rfl, rfl⟩
  go_wp2_with fail
  go_ret2
  exact ⟨rfl, rfl⟩
set_option maxHeartbeats 4000000 in
theorem sb_next_some {t1 : Int} {who : Nat} {p : Int} (h : SB w0 w s q pv P t ((t1, (who : Int)) :: l) n) (hl : l.length ≤ 999998) (hn : n ≤ 1000000000) (hp : P[who]? = some p) (h0 : 0 ≤ p) (h1 : p ≤ 1048576) (ht0 : 0 ≤ t1) (ht1 : t1 ≤ 1000000000000) :
    Calls Try.prog 11 #[.pointer (some ⟨s, 0, none⟩)] w fun e w' => e = .returned (.tuple #[.int .i64 (who : Int), .bool true]) ∧ SB w0 w' s q pv P t1 (dueL t1 p who l) (dueN p n) ∧ Ks w w' := by
  have c0 := blk_cell h.hs 0
  simp only [List.getElem?_toArray, List.getElem?_cons_zero] at c0
  have HS := Lib.hid h
  have HPP := Lib.hid (And.intro hp (And.intro h0 (And.intro h1 (And.intro ht0 ht1))))
  clear h hp h0 h1 ht0 ht1
  go_enter Try.func11, Try.ntmps11
  go_wp2_with fail
  refine (one_take_some HS.out.one (by omega)).mono ?_
  rintro e w1 ⟨rfl, h1, hk⟩
  have H1 := Lib.hid (HS.out.kp h1 hk)
  have HK1 := Lib.hid (Ks.ofKp hk)
  have d2 := blk_cell H1.out.hs 2
  have df := blk_frozen H1.out.hs 2
  simp only [List.getElem?_toArray, List.getElem?_cons_zero, List.getElem?_cons_succ] at d2
  clear h1 hk c0
  go_wp2_with fail
  have H2 := Lib.hid (H1.out.tick t1).1
  have HK2 := Lib.hid (HK1.out.trans (H1.out.tick t1).2)
  clear d2 df
  generalize w1.setCell ⟨s, 2, none⟩ (.int .i64 t1) = w2 at *
  refine (sb_due H2.out (by omega) hn HPP.out.1 HPP.out.2.1 HPP.out.2.2.1 HPP.out.2.2.2.1 HPP.out.2.2.2.2).mono ?_
  rintro e w3 ⟨rfl, h3, hk3⟩
  have H3 := Lib.hid h3
  have HK3 := Lib.hid (HK2.out.trans hk3)
  clear h3 hk3
  go_wp2_with fail
  go_ret2
  exact ⟨rfl, H3.out, HK3.out⟩
end Go.Proofs.Ytdojdhpfhjhmfaa
