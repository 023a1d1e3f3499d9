/- A turn on both: the law's next. -/
import Derived.Test.YtdojdhpfhjhmfaaNnew
import Derived.Test.YtdojdhpfhjhmfaaNset
set_option maxRecDepth 16000
set_option linter.unusedVariables false
set_option linter.unusedSimpArgs false
namespace Go.Proofs.Ytdojdhpfhjhmfaa
open Go.RowKit
variable {w0 w w' : World} {s q b : Nat} {pv vP vL : Value} {P : List Int} {S : Stt} {L : List One3} {t c : Int}
attribute [local go_sem] lib_max2 lib_min2 lib_max_two lib_min_two
/-- A schedule and the document's, side by side. -/
structure Both (w0 w : World) (s q : Nat) (pv : Value) (b : Nat) (vP vL : Value) (P : List Int) (S : Stt) (L : List One3) (t c : Int) : Prop where
  sch : Sch w0 w s q pv P S
  rv : RV b w vP vL P L
  rel : Rel S L t c
  sep : ∀ k, vP.ownBlock = some k → pv.ownBlock ≠ some k
  hb : b ≤ w.heap.size
theorem RV.ks (h : RV b w vP vL P L) (hk : Ks w w') : RV b w' vP vL P L := ⟨hk.row h.p (by decide) (by decide) (by decide) (by decide), hk.row h.l (by decide) (by decide) (by decide) (by decide)⟩
theorem Both.nope (h : Both w0 w s q pv b vP vL P S L t c) (ht : Turn Nope w w') : Both w0 w' s q pv b vP vL P S L t c :=
  ⟨h.sch.nope ht, h.rv.nope ht, h.rel, h.sep, Nat.le_trans h.hb ht.size⟩
theorem Both.t0 (h : Both w0 w s q pv b vP vL P S L t c) : 0 ≤ t := by rw [← h.rel.tick]; exact h.sch.ok.t0
theorem Both.t1 (h : Both w0 w s q pv b vP vL P S L t c) : t ≤ (S.n : Int) * 1048576 := by rw [← h.rel.tick]; exact h.sch.ok.t1
/-- A block of zeros, as a store finds it. -/
theorem zero_cells {V : World} {k : Nat} (h : V.heap[k]? = some (.cells #[.slice none 0 0, .slice none 0 0, .int .i64 0, .int .i64 0] 40 (0, 0))) :
    (V.cell? ⟨k, 0, none⟩ = some (.slice none 0 0) ∧ V.cell? ⟨k, 1, none⟩ = some (.slice none 0 0) ∧ V.cell? ⟨k, 2, none⟩ = some (.int .i64 0) ∧ V.cell? ⟨k, 3, none⟩ = some (.int .i64 0)) ∧ V.frozen? ⟨k, 0, none⟩ = false ∧ V.frozen? ⟨k, 1, none⟩ = false ∧ V.frozen? ⟨k, 2, none⟩ = false ∧ V.frozen? ⟨k, 3, none⟩ = false :=
  ⟨⟨by rw [blk_cell h]; rfl, by rw [blk_cell h]; rfl, by rw [blk_cell h]; rfl, by rw [blk_cell h]; rfl⟩, blk_frozen h _, blk_frozen h _, blk_frozen h _, blk_frozen h _⟩
theorem SB.far {V V' : World} {k : Nat} {cs : Array Value} {l : List Thing} {n : Nat} {tk : Int} (h : SB w0 V s q pv P tk l n) (hk : V.heap[k]? = some (.cells cs 40 (0, 0))) (ht : Turn (At k) V V') (hn : Turn Nope w0 V → Turn Nope w0 V') : SB w0 V' s q pv P tk l n := by
  obtain ⟨F, hq, h1, h2⟩ := h.one
  have hs := hq.other hk (by decide) (by decide) (by decide)
  refine ⟨⟨F, hq.keep ht (fun i hi e => hs (e ▸ hi)), h1, hn h2⟩, ht.blk h.hs fun e => ?_, h.new, own_turn h.row ht (own_ne h.row hk (by decide))⟩
  have e : s = k := e
  subst e
  have := h.hs
  rw [hk] at this
  injection this with this
  injection this with _ h3
  cases h3
theorem Both.store4 {V : World} {k : Nat} {cs : Array Value} (h : Both w0 V s q pv b vP vL P S L t c) (hk : V.heap[k]? = some (.cells cs 40 (0, 0))) (hn : w0.heap.size ≤ k) (x y z u : Value) :
    Both w0 (store4 V k x y z u) s q pv b vP vL P S L t c := by
  have ht := store4_turn (Turn.refl (At k) V) (.inl rfl) x y z u
  exact ⟨⟨h.sch.at_.far hk ht fun h2 => store4_turn h2 (.inr hn) x y z u, h.sch.ok⟩, ⟨row_store4 h.rv.p hk (by decide) _ _ _ _, row_store4 h.rv.l hk (by decide) _ _ _ _⟩, h.rel, h.sep, Nat.le_trans h.hb ht.size⟩
theorem Ks.store4 {V wa : World} {k : Nat} (h : Ks wa V) (hn : wa.heap.size ≤ k) (x y z u : Value) : Ks wa (store4 V k x y z u) := by
  have ht := store4_turn (Turn.refl (At k) V) (.inl rfl) x y z u
  exact ⟨Nat.le_trans h.size ht.size, fun g o hg hb => ht.blk (h.keep g o hg hb) fun e => by
    have e : g = k := e
    have := blk_lt hg
    omega⟩
set_option maxHeartbeats 8000000 in
theorem next_any (h : Both w0 w s q pv b vP vL P S L t c) (hl : S.l.length ≤ 900) (hn : S.n ≤ 700000) (hc0 : 0 ≤ c) (hc1 : c ≤ 1000000) :
    Calls Try.prog 16 #[.pointer (some ⟨s, 0, none⟩), .agg #[vP, vL, .int .i64 t, .int .i64 c]] w fun e w' => ∃ vL' S' L' t' c', e = .returned (.tuple #[.agg #[vP, vL', .int .i64 t', .int .i64 c'], .bool true]) ∧
      Both w0 w' s q pv b vP vL' P S' L' t' c' ∧ S'.l.length ≤ S.l.length ∧ S'.n ≤ S.n + 1 ∧ 0 ≤ c' ∧ c' ≤ c + 1 ∧ Ks w w' := by
  obtain ⟨A1, n1, rfl, _⟩ := own_slice h.rv.p
  obtain ⟨A2, n2, rfl, _⟩ := own_slice h.rv.l
  have H0 := Lib.hid h
  have HB := Lib.hid (And.intro hl (And.intro hn (And.intro hc0 hc1)))
  clear h hl hn hc0 hc1
  go_enter Try.func16, Try.ntmps16
  go_wp2_with fail
  obtain ⟨H, hH⟩ : ∃ H, w.heap.size = H := ⟨_, rfl⟩
  have HA : Hid (((w.alloc (.cells #[.slice A1 P.length n1, .slice A2 L.length n2, .int .i64 t, .int .i64 c] 40)).alloc (.cells #[.slice none 0 0, .slice none 0 0, .int .i64 0, .int .i64 0] 40)).heap[H]? = some (.cells #[.slice A1 P.length n1, .slice A2 L.length n2, .int .i64 t, .int .i64 c] 40 (0, 0)) ∧
      ((w.alloc (.cells #[.slice A1 P.length n1, .slice A2 L.length n2, .int .i64 t, .int .i64 c] 40)).alloc (.cells #[.slice none 0 0, .slice none 0 0, .int .i64 0, .int .i64 0] 40)).heap[H + 1]? = some (.cells #[.slice none 0 0, .slice none 0 0, .int .i64 0, .int .i64 0] 40 (0, 0)) ∧
      Turn Nope w ((w.alloc (.cells #[.slice A1 P.length n1, .slice A2 L.length n2, .int .i64 t, .int .i64 c] 40)).alloc (.cells #[.slice none 0 0, .slice none 0 0, .int .i64 0, .int .i64 0] 40))) :=
    ⟨by rw [← hH]; exact blk_alloc (blk_new _ _) _, by rw [← hH]; exact blk_new1 _ _ _, ((Turn.refl _ _).alloc _).alloc _⟩
  rw [hH]
  have HH := Lib.hid hH
  clear hH
  refine (?_ : Calls _ _ _ ((w.alloc (.cells #[.slice A1 P.length n1, .slice A2 L.length n2, .int .i64 t, .int .i64 c] 40)).alloc (.cells #[.slice none 0 0, .slice none 0 0, .int .i64 0, .int .i64 0] 40)) _)
  generalize (w.alloc (.cells #[.slice A1 P.length n1, .slice A2 L.length n2, .int .i64 t, .int .i64 c] 40)).alloc (.cells #[.slice none 0 0, .slice none 0 0, .int .i64 0, .int .i64 0] 40) = w1 at HA ⊢
  have H1 := Lib.hid (H0.out.nope HA.out.2.2)
  rcases hst : stepT P S with _ | ⟨who, S'⟩
  · have hLn := H1.out.rel.idle P hst
    subst hLn
    refine (sch_next_none H1.out.sch hst).mono ?_
    rintro e w2 ⟨rfl, rfl⟩
    have k0 := blk_cell HA.out.1 0
    have k1 := blk_cell HA.out.1 1
    have k2 := blk_cell HA.out.1 2
    have k3 := blk_cell HA.out.1 3
    simp only [List.getElem?_toArray, List.getElem?_cons_zero, List.getElem?_cons_succ] at k0 k1 k2 k3
    go_wp2_with fail
    clear k0 k1 k2 k3
    refine (ref_next_none H1.out.rv H1.out.hb t c).mono ?_
    rintro e w3 ⟨rfl, ht⟩
    have HR : Hid (∀ o : Obj, (w3.alloc o).heap[H + 1]? = some (.cells #[.slice none 0 0, .slice none 0 0, .int .i64 0, .int .i64 0] 40 (0, 0))) := fun o => blk_alloc (ht.blk HA.out.2.1 fun h => h) o
    have H3 := Lib.hid (H1.out.nope ht)
    have HT := Lib.hid ht
    clear ht
    have q0 := fun o => (zero_cells (HR.out o)).1.1
    have q1 := fun o => (zero_cells (HR.out o)).1.2.1
    have q2 := fun o => (zero_cells (HR.out o)).1.2.2.1
    have q3 := fun o => (zero_cells (HR.out o)).1.2.2.2
    have g0 := fun o => (zero_cells (HR.out o)).2.1
    have g1 := fun o => (zero_cells (HR.out o)).2.2.1
    have g2 := fun o => (zero_cells (HR.out o)).2.2.2.1
    have g3 := fun o => (zero_cells (HR.out o)).2.2.2.2
    go_wp2_with fail
    clear q0 q1 q2 q3 g0 g1 g2 g3
    have H4 : Hid (Both w0 (store4 (w3.alloc (.cells #[.slice A1 P.length n1, .slice A2 0 n2, .int .i64 t, .int .i64 c] 40)) (H + 1) (.slice A1 P.length n1) (.slice A2 0 n2) (.int .i64 t) (.int .i64 c)) s q pv b (.slice A1 P.length n1) (.slice A2 0 n2) P S [] t c) :=
      (H3.out.nope ((Turn.refl _ _).alloc _)).store4 (HR.out _) (by have h1 := H0.out.sch.turn.size; have h2 := HH.out; omega) _ _ _ _
    have HK : Hid (Ks w (store4 (w3.alloc (.cells #[.slice A1 P.length n1, .slice A2 0 n2, .int .i64 t, .int .i64 c] 40)) (H + 1) (.slice A1 P.length n1) (.slice A2 0 n2) (.int .i64 t) (.int .i64 c))) :=
      (((Ks.ofNope HA.out.2.2).trans (Ks.ofNope HT.out)).trans (Ks.ofNope ((Turn.refl _ _).alloc _))).store4 (by have h2 := HH.out; omega) _ _ _ _
    have HE := Lib.hid (store4_blk (HR.out (.cells #[.slice A1 P.length n1, .slice A2 0 n2, .int .i64 t, .int .i64 c] 40)) (.slice A1 P.length n1) (.slice A2 0 n2) (.int .i64 t) (.int .i64 c))
    refine (?_ : bodyPost _ _ _ _ _ (store4 (w3.alloc (.cells #[.slice A1 P.length n1, .slice A2 0 n2, .int .i64 t, .int .i64 c] 40)) (H + 1) (.slice A1 P.length n1) (.slice A2 0 n2) (.int .i64 t) (.int .i64 c)))
    generalize store4 (w3.alloc (.cells #[.slice A1 P.length n1, .slice A2 0 n2, .int .i64 t, .int .i64 c] 40)) (H + 1) (.slice A1 P.length n1) (.slice A2 0 n2) (.int .i64 t) (.int .i64 c) = wE at H4 HK HE ⊢
    have e0 := blk_cell HE.out 0
    have e1 := blk_cell HE.out 1
    have e2 := blk_cell HE.out 2
    have e3 := blk_cell HE.out 3
    simp only [List.getElem?_toArray, List.getElem?_cons_zero, List.getElem?_cons_succ] at e0 e1 e2 e3
    exact bodyPost_ret (v := .tuple #[.agg #[.slice A1 P.length n1, .slice A2 0 n2, .int .i64 t, .int .i64 c], .bool true]) (by simp [results, Try.results16, go_sem, e0, e1, e2, e3]) rfl ⟨_, S, [], t, c, rfl, H4.out, Nat.le_refl _, by omega, HB.out.2.2.1, by omega, HK.out⟩
  · have hok := okay_step H1.out.sch.ok H1.out.sch.rises hst
    have hbd := stepT_bd hst
    obtain ⟨j, hj, hjl⟩ := hok.2.2
    subst hj
    obtain ⟨j', hj'⟩ : ∃ j' : Nat, j' = j := ⟨_, rfl⟩
    have hj : (j : Int) = (j : Int) := rfl
    obtain ⟨k, z, hmin, hzw, hzt, hrel⟩ := H1.out.rel.pick P hst
    have hpj : P[j]? = some (paceAt P (j : Int)) := by
      unfold paceAt
      rw [Int.toNat_natCast, List.getD_eq_getElem?_getD, List.getElem?_eq_getElem hjl]; rfl
    have hpi := H1.out.sch.ok.pace _ (List.mem_of_getElem? hpj)
    have hzb : 0 ≤ z.at_ ∧ z.at_ ≤ 1000000000000 := by
      rw [← hzt]
      have h1 := hok.1.t0
      have h2 := hok.1.t1
      have h3 := HB.out.2.1
      have h4 := hbd.2
      omega
    have hLl : L.length ≤ 1000 := by rw [← H1.out.rel.len]; have := HB.out.1; omega
    have HREL := Lib.hid (hrel j hj)
    have HZ := Lib.hid (And.intro hmin (And.intro hzw (And.intro hj (And.intro hpj (And.intro hpi (And.intro hzb hLl))))))
    have HOK := Lib.hid (And.intro hok.1 (And.intro hbd hzt))
    refine (sch_next_some H1.out.sch (by have := HB.out.1; omega) (by have := HB.out.2.1; omega) hst).mono ?_
    clear hok hbd hj hj' hjl hmin hzw hzt hrel hpj hpi hzb hLl hst
    rintro e w2 ⟨rfl, hsc, hks⟩
    have H2 := Lib.hid (And.intro hsc (And.intro hks (H1.out.rv.ks hks)))
    have HA2 : Hid (w2.heap[H]? = some (.cells #[.slice A1 P.length n1, .slice A2 L.length n2, .int .i64 t, .int .i64 c] 40 (0, 0)) ∧ w2.heap[H + 1]? = some (.cells #[.slice none 0 0, .slice none 0 0, .int .i64 0, .int .i64 0] 40 (0, 0))) := ⟨hks.cells _ _ _ HA.out.1 (by decide) (by decide) (by decide) (by decide), hks.cells _ _ _ HA.out.2.1 (by decide) (by decide) (by decide) (by decide)⟩
    clear hsc hks
    have k0 := blk_cell HA2.out.1 0
    have k1 := blk_cell HA2.out.1 1
    have k2 := blk_cell HA2.out.1 2
    have k3 := blk_cell HA2.out.1 3
    simp only [List.getElem?_toArray, List.getElem?_cons_zero, List.getElem?_cons_succ] at k0 k1 k2 k3
    go_wp2_with fail
    clear k0 k1 k2 k3
    have hcall := ref_next_some (t := t) (c := c) H2.out.2.2 (by have h1 := H1.out.hb; have h2 := H2.out.2.1.size; omega) HZ.out.2.2.2.2.2.2 HZ.out.1 HZ.out.2.1 HZ.out.2.2.2.1 HZ.out.2.2.2.2.1.1 HZ.out.2.2.2.2.1.2 HZ.out.2.2.2.2.2.1.1 HZ.out.2.2.2.2.2.1.2 HB.out.2.2.1 (by have := HB.out.2.2.2; omega)
    rw [HZ.out.2.1] at hcall
    refine hcall.mono ?_
    clear hcall
    rintro e w3 ⟨vL', rfl, hr, ht⟩
    obtain ⟨L', hL'⟩ : ∃ L', dueR P (rdropL (j : Int) L) z.at_ c j (paceAt P (j : Int)) = L' := ⟨_, rfl⟩
    rw [hL'] at hr
    have hre := HREL.out
    rw [hL'] at hre
    obtain ⟨A5, n5, rfl, _⟩ := own_slice hr.l
    have H3 : Hid (Both w0 w3 s q pv b (.slice A1 P.length n1) (.slice A5 L'.length n5) P S' L' z.at_ (c + 1)) := ⟨H2.out.1.nope ht, hr, hre, H1.out.sep, by have h1 := H1.out.hb; have h2 := H2.out.2.1.size; have h3 := ht.size; omega⟩
    have HR : Hid (∀ o : Obj, (w3.alloc o).heap[H + 1]? = some (.cells #[.slice none 0 0, .slice none 0 0, .int .i64 0, .int .i64 0] 40 (0, 0))) := fun o => blk_alloc (ht.blk HA2.out.2 fun h => h) o
    have HT := Lib.hid ht
    clear hL' hre hr ht
    have q0 := fun o => (zero_cells (HR.out o)).1.1
    have q1 := fun o => (zero_cells (HR.out o)).1.2.1
    have q2 := fun o => (zero_cells (HR.out o)).1.2.2.1
    have q3 := fun o => (zero_cells (HR.out o)).1.2.2.2
    have g0 := fun o => (zero_cells (HR.out o)).2.1
    have g1 := fun o => (zero_cells (HR.out o)).2.2.1
    have g2 := fun o => (zero_cells (HR.out o)).2.2.2.1
    have g3 := fun o => (zero_cells (HR.out o)).2.2.2.2
    have d0 : decide ((0 : Int) ≤ (j : Int)) = true := by simp
    have d1 : ¬ (j : Int) < 0 := by omega
    have d2 : ((j : Int) == (j : Int)) = true := by simp
    go_wp2_with fail
    clear q0 q1 q2 q3 g0 g1 g2 g3
    have H4 : Hid (Both w0 (store4 (w3.alloc (.cells #[.slice A1 P.length n1, .slice A5 L'.length n5, .int .i64 z.at_, .int .i64 (c + 1)] 40)) (H + 1) (.slice A1 P.length n1) (.slice A5 L'.length n5) (.int .i64 z.at_) (.int .i64 (c + 1))) s q pv b (.slice A1 P.length n1) (.slice A5 L'.length n5) P S' L' z.at_ (c + 1)) :=
      (H3.out.nope ((Turn.refl _ _).alloc _)).store4 (HR.out _) (by have h1 := H0.out.sch.turn.size; have h2 := HH.out; omega) _ _ _ _
    have HK : Hid (Ks w (store4 (w3.alloc (.cells #[.slice A1 P.length n1, .slice A5 L'.length n5, .int .i64 z.at_, .int .i64 (c + 1)] 40)) (H + 1) (.slice A1 P.length n1) (.slice A5 L'.length n5) (.int .i64 z.at_) (.int .i64 (c + 1)))) :=
      ((((Ks.ofNope HA.out.2.2).trans H2.out.2.1).trans (Ks.ofNope HT.out)).trans (Ks.ofNope ((Turn.refl _ _).alloc _))).store4 (by have h2 := HH.out; omega) _ _ _ _
    have HE := Lib.hid (store4_blk (HR.out (.cells #[.slice A1 P.length n1, .slice A5 L'.length n5, .int .i64 z.at_, .int .i64 (c + 1)] 40)) (.slice A1 P.length n1) (.slice A5 L'.length n5) (.int .i64 z.at_) (.int .i64 (c + 1)))
    refine (?_ : bodyPost _ _ _ _ _ (store4 (w3.alloc (.cells #[.slice A1 P.length n1, .slice A5 L'.length n5, .int .i64 z.at_, .int .i64 (c + 1)] 40)) (H + 1) (.slice A1 P.length n1) (.slice A5 L'.length n5) (.int .i64 z.at_) (.int .i64 (c + 1))))
    generalize store4 (w3.alloc (.cells #[.slice A1 P.length n1, .slice A5 L'.length n5, .int .i64 z.at_, .int .i64 (c + 1)] 40)) (H + 1) (.slice A1 P.length n1) (.slice A5 L'.length n5) (.int .i64 z.at_) (.int .i64 (c + 1)) = wE at H4 HK HE ⊢
    have e0 := blk_cell HE.out 0
    have e1 := blk_cell HE.out 1
    have e2 := blk_cell HE.out 2
    have e3 := blk_cell HE.out 3
    simp only [List.getElem?_toArray, List.getElem?_cons_zero, List.getElem?_cons_succ] at e0 e1 e2 e3
    exact bodyPost_ret (v := .tuple #[.agg #[.slice A1 P.length n1, .slice A5 L'.length n5, .int .i64 z.at_, .int .i64 (c + 1)], .bool true]) (by simp [results, Try.results16, go_sem, e0, e1, e2, e3]) rfl ⟨_, S', L', z.at_, c + 1, rfl, H4.out, HOK.out.2.1.1, HOK.out.2.1.2, by have := HB.out.2.2.1; omega, Int.le_refl _, HK.out⟩
end Go.Proofs.Ytdojdhpfhjhmfaa
