/- An object's methods, walked. -/
import Derived.Test.YteggenihjhclkaaOb
set_option maxRecDepth 16000
set_option linter.unusedVariables false
set_option linter.unusedSimpArgs false
namespace Go.Proofs.Yteggenihjhclkaa
open Go.RowKit Go.Maps
variable {w0 w w' : World} {b m c : Nat} {P : PS}
theorem kind_any (P : PS) (b : Nat) (w : World) : Calls Try.prog (fKind P.kind) #[rv b] w fun e w' => e = .returned (.int .i64 (P.kind : Int)) ∧ Turn Nope w w' := by
  cases P
  · show Calls Try.prog 62 _ _ _
    go_enter Try.func62, Try.ntmps62
    go_wp2
    go_ret
    exact ⟨rfl, (Turn.refl _ _).alloc _⟩
  · show Calls Try.prog 107 _ _ _
    go_enter Try.func107, Try.ntmps107
    go_wp2
    go_ret
    exact ⟨rfl, (Turn.refl _ _).alloc _⟩
  · show Calls Try.prog 113 _ _ _
    go_enter Try.func113, Try.ntmps113
    go_wp2
    go_ret
    exact ⟨rfl, (Turn.refl _ _).alloc _⟩
theorem osave_any (h : Ob w0 w b m c P) : Calls Try.prog (fSave P.kind) #[pv b] w fun e w' => e = .returned (.string P.saved) ∧ Turn Nope w w' := by
  cases P with
  | tx s => obtain ⟨rfl, h1, h2, h3⟩ := h; exact Tx.save_any _ s w h1 h2
  | lg C K => obtain ⟨n, h1, h2⟩ := h; exact Lg.save_any h1
  | sk C K => obtain ⟨n, h1, h2⟩ := h; exact Sk.save_any h1
/-- What Do answers. -/
def resV (P : PS) (o : OOp) : Value := .agg #[.int .i64 (P.err o), .string (P.gone o)]
theorem do_wrong (F : Nat) (K1 : Int) (hF : (F = 61 ∧ K1 = 1) ∨ (F = 106 ∧ K1 = 2) ∨ (F = 112 ∧ K1 = 3)) (b : Nat) (o : OOp) (ho : o.k ≠ K1) (w : World) :
    Calls Try.prog F #[rv b, .agg (opC o)] w fun e w' => e = .returned (.agg #[.int .i64 5, .string ⟨#[]⟩]) ∧ Turn Nope w w' := by
  have hne : (o.k != K1) = true := by simpa using ho
  unfold opC
  rcases hF with ⟨rfl, rfl⟩ | ⟨rfl, rfl⟩ | ⟨rfl, rfl⟩
  · go_enter Try.func61, Try.ntmps61
    go_wp2_with fail
    exact bodyPost_ret (v := .agg #[.int .i64 5, .string ⟨#[]⟩]) (by simp [results, Try.results61, go_sem]) rfl ⟨rfl, by repeat (first | exact Turn.refl _ _ | apply Turn.alloc)⟩
  · go_enter Try.func106, Try.ntmps106
    go_wp2_with fail
    exact bodyPost_ret (v := .agg #[.int .i64 5, .string ⟨#[]⟩]) (by simp [results, Try.results106, go_sem]) rfl ⟨rfl, by repeat (first | exact Turn.refl _ _ | apply Turn.alloc)⟩
  · go_enter Try.func112, Try.ntmps112
    go_wp2_with fail
    exact bodyPost_ret (v := .agg #[.int .i64 5, .string ⟨#[]⟩]) (by simp [results, Try.results112, go_sem]) rfl ⟨rfl, by repeat (first | exact Turn.refl _ _ | apply Turn.alloc)⟩
theorem blk3 (w : World) (o1 o2 o3 : Obj) : (((w.alloc o1).alloc o2).alloc o3).heap[w.heap.size + 1 + 1]? = some o3 := by
  have := blk_new ((w.alloc o1).alloc o2) o3
  rw [show ((w.alloc o1).alloc o2).heap.size = w.heap.size + 1 + 1 by simp] at this
  exact this
set_option maxHeartbeats 4000000 in
theorem do_tx (s : ByteArray) (h : Ob w0 w b m c (PS.tx s)) (o : OOp) (ho : o.k = 1) (hsz : o.ln.size ≤ maxLen ∧ o.lt.size ≤ maxLen ∧ o.sn.size ≤ maxLen) (hc : c ≤ 900) :
    Calls Try.prog 61 #[rv b, .agg (opC o)] w fun e w' => e = .returned (resV (PS.tx s) o) ∧ Ob w0 w' b m (c + 2) ((PS.tx s).nxt o) ∧ Turn (At m) w w' := by
  have HLT := Lib.hid h.lt
  have HSZ := Lib.hid (And.intro hsz hc)
  obtain ⟨rfl, h1, h2, h3⟩ := h
  have H1 := Lib.hid (And.intro h1 (And.intro h2 h3))
  clear h1 h2 h3
  have hR : resV (PS.tx s) o = .agg #[.int .i64 ((Tx.dDo s o.tk o.ta o.ts o.tn).2.2), .string ((Tx.dDo s o.tk o.ta o.ts o.tn).2.1)] := by
    unfold resV PS.err PS.gone
    simp only [if_pos ho]
  have hN : (PS.tx s).nxt o = .tx (Tx.dDo s o.tk o.ta o.ts o.tn).1 := by unfold PS.nxt; simp only [if_pos ho]
  rw [hR, hN]
  obtain ⟨k, tk, ta, ts, tn, lk, ln, lt, la, sk, sn, sN⟩ := o
  obtain rfl : k = 1 := ho
  unfold opC
  dsimp only [lgOp, skOp] at HSZ ⊢
  have HDS : Hid ((Tx.dDo s tk ta ts tn).1.size ≤ 200) := dDo_size s tk ta ts tn H1.out.2.1
  clear hR hN hsz hc
  go_enter Try.func61, Try.ntmps61
  go_wp2_with fail
  have T0 : Hid (Turn Nope w (((w.alloc (.cells #[.pointer (some ⟨b, 0, none⟩)] 71)).alloc (.cells #[.int .i64 1, .int .i64 tk, .int .i64 ta, .string ts, .int .i64 tn, .int .i64 lk, .string ln, .string lt, .int .i64 la, .int .i64 sk, .string sn, .int .i64 sN] 30)).alloc (.cells #[.int .i64 0, .string ⟨#[]⟩] 47))) := (((Turn.refl _ _).alloc _).alloc _).alloc _
  have B0 := Lib.hid (blk3 w (.cells #[.pointer (some ⟨b, 0, none⟩)] 71) (.cells #[.int .i64 1, .int .i64 tk, .int .i64 ta, .string ts, .int .i64 tn, .int .i64 lk, .string ln, .string lt, .int .i64 la, .int .i64 sk, .string sn, .int .i64 sN] 30) (.cells #[.int .i64 0, .string ⟨#[]⟩] 47))
  generalize ((w.alloc (.cells #[.pointer (some ⟨b, 0, none⟩)] 71)).alloc (.cells #[.int .i64 1, .int .i64 tk, .int .i64 ta, .string ts, .int .i64 tn, .int .i64 lk, .string ln, .string lt, .int .i64 la, .int .i64 sk, .string sn, .int .i64 sN] 30)).alloc (.cells #[.int .i64 0, .string ⟨#[]⟩] 47) = w1 at T0 B0 ⊢
  refine (Tx.do_any b s tk ta ts tn w1 (T0.out.blk H1.out.1 fun h => h) H1.out.2.1).mono ?_
  rintro e w2 ⟨rfl, hd, ht⟩
  have B2 := Lib.hid (ht.blk B0.out (fun e => by have e : w.heap.size + 1 + 1 = _ := e; have := HLT.out; omega))
  have HD2 := Lib.hid hd
  have HT2 : Hid (Turn (At b) w w2) := (T0.out.mono fun _ h => h.elim).trans ht
  have HW : Hid (w.heap.size ≤ w.heap.size + 1 + 1 ∧ w.heap.size + 1 + 1 ≠ b ∧ w.heap.size + 1 + 1 ≠ b) := by have := HLT.out; exact ⟨by omega, by omega, by omega⟩
  generalize w.heap.size + 1 + 1 = g at B2 HW ⊢
  obtain ⟨gone, hg⟩ : ∃ x, (Tx.dDo s tk ta ts tn).2.1 = x := ⟨_, rfl⟩
  obtain ⟨er, he⟩ : ∃ x, (Tx.dDo s tk ta ts tn).2.2 = x := ⟨_, rfl⟩
  rw [hg, he]
  have HEQ := Lib.hid (And.intro hg he)
  clear hg he
  have c0 := blk_cell B2.out 0
  have c1 := blk_cell B2.out 1
  have f0 := blk_frozen B2.out 0
  have f1 := blk_frozen B2.out 1
  simp only [List.getElem?_toArray, List.getElem?_cons_zero, List.getElem?_cons_succ] at c0 c1
  clear hd ht B0 T0
  go_wp2_with fail
  have HT3 : Hid (Turn (At b) w ((w2.setCell ⟨g, 0, none⟩ (.int .i64 er)).setCell ⟨g, 1, none⟩ (.string gone))) := (HT2.out.setCell (.inr HW.out.1) _).setCell (.inr HW.out.1) _
  have HK3 : Hid (Turn (At g) w2 ((w2.setCell ⟨g, 0, none⟩ (.int .i64 er)).setCell ⟨g, 1, none⟩ (.string gone))) := by show Turn (At g) _ _; exact Turn.setCell (p := ⟨g, 1, none⟩) (Turn.setCell (p := ⟨g, 0, none⟩) (Turn.refl (At g) w2) (.inl rfl) _) (.inl rfl) _
  have c2 := blk_cell (blk_set (blk_set B2.out 0 (.int .i64 er)) 1 (.string gone)) 0
  have c3 := blk_cell (blk_set (blk_set B2.out 0 (.int .i64 er)) 1 (.string gone)) 1
  simp at c2 c3
  exact bodyPost_ret (v := .agg #[.int .i64 er, .string gone]) (by simp [results, Try.results61, go_sem, *]) rfl ⟨by rw [HEQ.out.1, HEQ.out.2], ⟨rfl, HK3.out.blk HD2.out (fun e => HW.out.2.1 (show b = g from e).symm), HDS.out, H1.out.2.2⟩, HT3.out⟩
set_option maxHeartbeats 4000000 in
theorem do_lg {C : Lg.Nm → Int} {K : List Lg.Nm} (h : Ob w0 w b m c (PS.lg C K)) (o : OOp) (ho : o.k = 2) (hsz : o.ln.size ≤ maxLen ∧ o.lt.size ≤ maxLen ∧ o.sn.size ≤ maxLen) (hc : c ≤ 900) :
    Calls Try.prog 106 #[rv b, .agg (opC o)] w fun e w' => e = .returned (resV (PS.lg C K) o) ∧ Ob w0 w' b m (c + 2) ((PS.lg C K).nxt o) ∧ Turn (At m) w w' := by
  have HLT := Lib.hid h.lt
  have HSZ := Lib.hid (And.intro hsz hc)
  obtain ⟨n, h1, h2, h3⟩ := h
  have H1 := Lib.hid (And.intro h1 (And.intro h2 h3))
  clear h1 h2 h3
  have hR : resV (PS.lg C K) o = .agg #[.int .i64 (Lg.doE C K (lgOp o)), .string (⟨#[]⟩)] := by
    unfold resV PS.err PS.gone
    simp only [if_pos ho]
  have hN : (PS.lg C K).nxt o = .lg (Lg.doC C K (lgOp o)) (Lg.doK C K (lgOp o)) := by unfold PS.nxt; simp only [if_pos ho]
  rw [hR, hN]
  obtain ⟨k, tk, ta, ts, tn, lk, ln, lt, la, sk, sn, sN⟩ := o
  obtain rfl : k = 2 := ho
  unfold opC
  dsimp only [lgOp, skOp] at HSZ ⊢

  clear hR hN hsz hc
  go_enter Try.func106, Try.ntmps106
  go_wp2_with fail
  have T0 : Hid (Turn Nope w (((w.alloc (.cells #[.pointer (some ⟨b, 0, none⟩)] 75)).alloc (.cells #[.int .i64 2, .int .i64 tk, .int .i64 ta, .string ts, .int .i64 tn, .int .i64 lk, .string ln, .string lt, .int .i64 la, .int .i64 sk, .string sn, .int .i64 sN] 30)).alloc (.cells #[.int .i64 0, .string ⟨#[]⟩] 47))) := (((Turn.refl _ _).alloc _).alloc _).alloc _
  have B0 := Lib.hid (blk3 w (.cells #[.pointer (some ⟨b, 0, none⟩)] 75) (.cells #[.int .i64 2, .int .i64 tk, .int .i64 ta, .string ts, .int .i64 tn, .int .i64 lk, .string ln, .string lt, .int .i64 la, .int .i64 sk, .string sn, .int .i64 sN] 30) (.cells #[.int .i64 0, .string ⟨#[]⟩] 47))
  generalize ((w.alloc (.cells #[.pointer (some ⟨b, 0, none⟩)] 75)).alloc (.cells #[.int .i64 2, .int .i64 tk, .int .i64 ta, .string ts, .int .i64 tn, .int .i64 lk, .string ln, .string lt, .int .i64 la, .int .i64 sk, .string sn, .int .i64 sN] 30)).alloc (.cells #[.int .i64 0, .string ⟨#[]⟩] 47) = w1 at T0 B0 ⊢
  refine (Lg.do_any (H1.out.1.nope T0.out) (by have := H1.out.2.2; have := HSZ.out.2; omega) lk la ln lt HSZ.out.1.1 HSZ.out.1.2.1).mono ?_
  rintro e w2 ⟨rfl, hd, ht⟩
  have B2 := Lib.hid (ht.blk B0.out (fun e => by have e : w.heap.size + 1 + 1 = _ := e; have := HLT.out; omega))
  have HD2 := Lib.hid hd
  have HT2 : Hid (Turn (At m) w w2) := (T0.out.mono fun _ h => h.elim).trans ht
  have HW : Hid (w.heap.size ≤ w.heap.size + 1 + 1 ∧ w.heap.size + 1 + 1 ≠ b ∧ w.heap.size + 1 + 1 ≠ m) := by have := HLT.out; exact ⟨by omega, by omega, by omega⟩
  generalize w.heap.size + 1 + 1 = g at B2 HW ⊢
  obtain ⟨gone, hg⟩ : ∃ x : ByteArray, ⟨#[]⟩ = x := ⟨_, rfl⟩
  obtain ⟨er, he⟩ : ∃ x, Lg.doE C K ⟨lk, Lg.nmOf ln, Lg.nmOf lt, la⟩ = x := ⟨_, rfl⟩
  rw [he]
  have HSM : Hid (Lg.sumK (Lg.doC C K ⟨lk, Lg.nmOf ln, Lg.nmOf lt, la⟩) (Lg.doK C K ⟨lk, Lg.nmOf ln, Lg.nmOf lt, la⟩) = 0) := Lg.sum_did H1.out.1.good H1.out.2.1
  have HEQ := Lib.hid he
  clear he
  subst hg
  have c0 := blk_cell B2.out 0
  have c1 := blk_cell B2.out 1
  have f0 := blk_frozen B2.out 0
  have f1 := blk_frozen B2.out 1
  simp only [List.getElem?_toArray, List.getElem?_cons_zero, List.getElem?_cons_succ] at c0 c1
  clear hd ht B0 T0
  go_wp2_with fail
  have HT3 : Hid (Turn (At m) w ((w2.setCell ⟨g, 0, none⟩ (.int .i64 er)).setCell ⟨g, 1, none⟩ (.string ⟨#[]⟩))) := (HT2.out.setCell (.inr HW.out.1) _).setCell (.inr HW.out.1) _
  have HK3 : Hid (Turn (At g) w2 ((w2.setCell ⟨g, 0, none⟩ (.int .i64 er)).setCell ⟨g, 1, none⟩ (.string ⟨#[]⟩))) := by show Turn (At g) _ _; exact Turn.setCell (p := ⟨g, 1, none⟩) (Turn.setCell (p := ⟨g, 0, none⟩) (Turn.refl (At g) w2) (.inl rfl) _) (.inl rfl) _
  have c2 := blk_cell (blk_set (blk_set B2.out 0 (.int .i64 er)) 1 (.string ⟨#[]⟩)) 0
  have c3 := blk_cell (blk_set (blk_set B2.out 0 (.int .i64 er)) 1 (.string ⟨#[]⟩)) 1
  simp at c2 c3
  exact bodyPost_ret (v := .agg #[.int .i64 er, .string ⟨#[]⟩]) (by simp [results, Try.results106, go_sem, *]) rfl ⟨by rw [HEQ.out], ⟨n + 2, HD2.out.turn HK3.out (fun e => HW.out.2.1 (show b = g from e).symm) (fun e => HW.out.2.2 (show m = g from e).symm), HSM.out, by have := H1.out.2.2; omega⟩, HT3.out⟩
set_option maxHeartbeats 4000000 in
theorem do_sk {C : Sk.Nm → Int} {K : List Sk.Nm} (h : Ob w0 w b m c (PS.sk C K)) (o : OOp) (ho : o.k = 3) (hsz : o.ln.size ≤ maxLen ∧ o.lt.size ≤ maxLen ∧ o.sn.size ≤ maxLen) (hc : c ≤ 900) :
    Calls Try.prog 112 #[rv b, .agg (opC o)] w fun e w' => e = .returned (resV (PS.sk C K) o) ∧ Ob w0 w' b m (c + 2) ((PS.sk C K).nxt o) ∧ Turn (At m) w w' := by
  have HLT := Lib.hid h.lt
  have HSZ := Lib.hid (And.intro hsz hc)
  obtain ⟨n, h1, h3⟩ := h
  have H1 := Lib.hid (And.intro h1 h3)
  clear h1 h3
  have hR : resV (PS.sk C K) o = .agg #[.int .i64 (Sk.doE C K (skOp o)), .string (⟨#[]⟩)] := by
    unfold resV PS.err PS.gone
    simp only [if_pos ho]
  have hN : (PS.sk C K).nxt o = .sk (Sk.doC C K (skOp o)) (Sk.doK C K (skOp o)) := by unfold PS.nxt; simp only [if_pos ho]
  rw [hR, hN]
  obtain ⟨k, tk, ta, ts, tn, lk, ln, lt, la, sk, sn, sN⟩ := o
  obtain rfl : k = 3 := ho
  unfold opC
  dsimp only [lgOp, skOp] at HSZ ⊢

  clear hR hN hsz hc
  go_enter Try.func112, Try.ntmps112
  go_wp2_with fail
  have T0 : Hid (Turn Nope w (((w.alloc (.cells #[.pointer (some ⟨b, 0, none⟩)] 79)).alloc (.cells #[.int .i64 3, .int .i64 tk, .int .i64 ta, .string ts, .int .i64 tn, .int .i64 lk, .string ln, .string lt, .int .i64 la, .int .i64 sk, .string sn, .int .i64 sN] 30)).alloc (.cells #[.int .i64 0, .string ⟨#[]⟩] 47))) := (((Turn.refl _ _).alloc _).alloc _).alloc _
  have B0 := Lib.hid (blk3 w (.cells #[.pointer (some ⟨b, 0, none⟩)] 79) (.cells #[.int .i64 3, .int .i64 tk, .int .i64 ta, .string ts, .int .i64 tn, .int .i64 lk, .string ln, .string lt, .int .i64 la, .int .i64 sk, .string sn, .int .i64 sN] 30) (.cells #[.int .i64 0, .string ⟨#[]⟩] 47))
  generalize ((w.alloc (.cells #[.pointer (some ⟨b, 0, none⟩)] 79)).alloc (.cells #[.int .i64 3, .int .i64 tk, .int .i64 ta, .string ts, .int .i64 tn, .int .i64 lk, .string ln, .string lt, .int .i64 la, .int .i64 sk, .string sn, .int .i64 sN] 30)).alloc (.cells #[.int .i64 0, .string ⟨#[]⟩] 47) = w1 at T0 B0 ⊢
  refine (Sk.do_any (H1.out.1.nope T0.out) (by have := H1.out.2; have := HSZ.out.2; omega) sk sN sn HSZ.out.1.2.2).mono ?_
  rintro e w2 ⟨rfl, hd, ht⟩
  have B2 := Lib.hid (ht.blk B0.out (fun e => by have e : w.heap.size + 1 + 1 = _ := e; have := HLT.out; omega))
  have HD2 := Lib.hid hd
  have HT2 : Hid (Turn (At m) w w2) := (T0.out.mono fun _ h => h.elim).trans ht
  have HW : Hid (w.heap.size ≤ w.heap.size + 1 + 1 ∧ w.heap.size + 1 + 1 ≠ b ∧ w.heap.size + 1 + 1 ≠ m) := by have := HLT.out; exact ⟨by omega, by omega, by omega⟩
  generalize w.heap.size + 1 + 1 = g at B2 HW ⊢
  obtain ⟨gone, hg⟩ : ∃ x : ByteArray, ⟨#[]⟩ = x := ⟨_, rfl⟩
  obtain ⟨er, he⟩ : ∃ x, Sk.doE C K ⟨sk, Sk.nmOf sn, sN⟩ = x := ⟨_, rfl⟩
  rw [he]
  have HEQ := Lib.hid he
  clear he
  subst hg
  have c0 := blk_cell B2.out 0
  have c1 := blk_cell B2.out 1
  have f0 := blk_frozen B2.out 0
  have f1 := blk_frozen B2.out 1
  simp only [List.getElem?_toArray, List.getElem?_cons_zero, List.getElem?_cons_succ] at c0 c1
  clear hd ht B0 T0
  go_wp2_with fail
  have HT3 : Hid (Turn (At m) w ((w2.setCell ⟨g, 0, none⟩ (.int .i64 er)).setCell ⟨g, 1, none⟩ (.string ⟨#[]⟩))) := (HT2.out.setCell (.inr HW.out.1) _).setCell (.inr HW.out.1) _
  have HK3 : Hid (Turn (At g) w2 ((w2.setCell ⟨g, 0, none⟩ (.int .i64 er)).setCell ⟨g, 1, none⟩ (.string ⟨#[]⟩))) := by show Turn (At g) _ _; exact Turn.setCell (p := ⟨g, 1, none⟩) (Turn.setCell (p := ⟨g, 0, none⟩) (Turn.refl (At g) w2) (.inl rfl) _) (.inl rfl) _
  have c2 := blk_cell (blk_set (blk_set B2.out 0 (.int .i64 er)) 1 (.string ⟨#[]⟩)) 0
  have c3 := blk_cell (blk_set (blk_set B2.out 0 (.int .i64 er)) 1 (.string ⟨#[]⟩)) 1
  simp at c2 c3
  exact bodyPost_ret (v := .agg #[.int .i64 er, .string ⟨#[]⟩]) (by simp [results, Try.results112, go_sem, *]) rfl ⟨by rw [HEQ.out], ⟨n + 1, HD2.out.turn HK3.out (fun e => HW.out.2.1 (show b = g from e).symm) (fun e => HW.out.2.2 (show m = g from e).symm), by have := H1.out.2; omega⟩, HT3.out⟩
/-- Do, of whatever kind. -/
theorem odo_any (h : Ob w0 w b m c P) (o : OOp) (hsz : o.ln.size ≤ maxLen ∧ o.lt.size ≤ maxLen ∧ o.sn.size ≤ maxLen) (hc : c ≤ 900) :
    Calls Try.prog (fDo P.kind) #[rv b, .agg (opC o)] w fun e w' => e = .returned (resV P o) ∧ Ob w0 w' b m (c + 2) (P.nxt o) ∧ Turn (At m) w w' := by
  cases P with
  | tx s =>
    by_cases ho : o.k = 1
    · exact do_tx s h o ho hsz hc
    · refine (do_wrong 61 1 (.inl ⟨rfl, rfl⟩) b o ho w).mono ?_
      rintro e w' ⟨rfl, ht⟩
      have e1 : resV (.tx s) o = .agg #[.int .i64 5, .string ⟨#[]⟩] := by unfold resV PS.err PS.gone; simp only [if_neg ho]
      have e2 : (PS.tx s).nxt o = .tx s := by unfold PS.nxt; simp only [if_neg ho]
      rw [e1, e2]
      exact ⟨rfl, (h.nope ht).mono (by omega), ht.mono fun _ h => h.elim⟩
  | lg C K =>
    by_cases ho : o.k = 2
    · exact do_lg h o ho hsz hc
    · refine (do_wrong 106 2 (.inr (.inl ⟨rfl, rfl⟩)) b o ho w).mono ?_
      rintro e w' ⟨rfl, ht⟩
      have e1 : resV (.lg C K) o = .agg #[.int .i64 5, .string ⟨#[]⟩] := by unfold resV PS.err PS.gone; simp only [if_neg ho]
      have e2 : (PS.lg C K).nxt o = .lg C K := by unfold PS.nxt; simp only [if_neg ho]
      rw [e1, e2]
      exact ⟨rfl, (h.nope ht).mono (by omega), ht.mono fun _ h => h.elim⟩
  | sk C K =>
    by_cases ho : o.k = 3
    · exact do_sk h o ho hsz hc
    · refine (do_wrong 112 3 (.inr (.inr ⟨rfl, rfl⟩)) b o ho w).mono ?_
      rintro e w' ⟨rfl, ht⟩
      have e1 : resV (.sk C K) o = .agg #[.int .i64 5, .string ⟨#[]⟩] := by unfold resV PS.err PS.gone; simp only [if_neg ho]
      have e2 : (PS.sk C K).nxt o = .sk C K := by unfold PS.nxt; simp only [if_neg ho]
      rw [e1, e2]
      exact ⟨rfl, (h.nope ht).mono (by omega), ht.mono fun _ h => h.elim⟩
end Go.Proofs.Yteggenihjhclkaa
