/- Turns on both: the law's picks. -/
import Derived.Test.YtdojdhpfhjhmfaaNlaw
set_option maxRecDepth 16000
set_option linter.unusedVariables false
set_option linter.unusedSimpArgs false
namespace Go.Proofs.Ytdojdhpfhjhmfaa
open Go.RowKit
variable {w0 w w' : World} {s q b : Nat} {pv vP vL : Value} {P : List Int} {S : Stt} {L : List One3} {t c : Int}
attribute [local go_sem] lib_max2 lib_min2 lib_max_two lib_min_two
theorem Rel.rises (h : Rel S L t c) : Rises S.l := by
  obtain ⟨M, _, h2, h3⟩ := h.ex
  rw [h3]
  unfold Rises
  rw [List.pairwise_map]
  exact h2.imp fun {a b} hab => by
    show a.at_ ≤ b.at_
    unfold lessO at hab; omega
theorem runT_add (P : List Int) : ∀ (i d : Nat) (S : Stt), runT P (i + d) S = ((runT P i S).1 ++ (runT P d (runT P i S).2).1, (runT P d (runT P i S).2).2)
  | 0, d, S => by rw [Nat.zero_add]; rfl
  | i + 1, d, S => by
    cases hs : stepT P S with
    | none => rw [runT_none hs, runT_none hs]; rw [show (([], S) : List Int × Stt).2 = S from rfl, runT_none hs]; rfl
    | some r =>
      obtain ⟨who, S'⟩ := r
      have e1 : ∀ m, runT P (m + 1) S = (who :: (runT P m S').1, (runT P m S').2) := fun m => by rw [runT, hs]
      rw [show i + 1 + d = (i + d) + 1 by omega, e1 (i + d), e1 i, runT_add P i d S']
      rfl
theorem runT_at {P : List Int} {S S' : Stt} {who : Int} {i k : Nat} (h : stepT P (runT P i S).2 = some (who, S')) (hl : (runT P i S).1.length = i) (hk : i < k) : (runT P k S).1[i]? = some who ∧ i < (runT P k S).1.length := by
  obtain ⟨d, rfl⟩ : ∃ d, k = i + (d + 1) := ⟨k - i - 1, by omega⟩
  have h1 : (runT P (d + 1) (runT P i S).2).1 = who :: (runT P d S').1 := by
    rw [runT, h]
  rw [runT_add, h1]
  refine ⟨by rw [List.getElem?_append_right (by rw [hl]; exact Nat.le_refl _), hl, Nat.sub_self]; rfl, by rw [List.length_append, hl, List.length_cons]; omega⟩
/-- In the middle of some picks: the schedule has them behind it, the document's has had i. -/
structure PickW (w0 w V : World) (s q : Nat) (pv : Value) (b H : Nat) (vP vL : Value) (P : List Int) (SK Si : Stt) (L : List One3) (t c : Int) (rb : Nat) (rv : Value) (R : List Int) : Prop where
  sch : Sch w0 V s q pv P SK
  rvv : RV b V vP vL P L
  rel : Rel Si L t c
  ok : Okay P Si.t Si.l Si.n
  box : V.heap[H]? = some (.cells #[vP, vL, .int .i64 t, .int .i64 c] 40 (0, 0))
  res : V.heap[H + 1]? = some (.cells #[.slice none 0 0, .slice none 0 0, .int .i64 0, .int .i64 0] 40 (0, 0))
  row : V.ownsRow rb 3 1 rv R.length (whoI R)
  ks : Ks w V
  hb : b ≤ V.heap.size
  hz : w.heap.size = H
  hw : w0.heap.size ≤ H
theorem PickW.nope {V V' : World} {H rb : Nat} {SK Si : Stt} {rv : Value} {R : List Int} (h : PickW w0 w V s q pv b H vP vL P SK Si L t c rb rv R) (ht : Turn Nope V V') : PickW w0 w V' s q pv b H vP vL P SK Si L t c rb rv R :=
  ⟨h.sch.nope ht, h.rvv.nope ht, h.rel, h.ok, ht.blk h.box fun h => h, ht.blk h.res fun h => h, own_nope h.row ht, h.ks.trans (Ks.ofNope ht), Nat.le_trans h.hb ht.size, h.hz, h.hw⟩
theorem PickW.boxed {V : World} {H rb : Nat} {SK Si Si' : Stt} {rv vL' : Value} {R : List Int} {L' : List One3} {t' c' : Int} (h : PickW w0 w V s q pv b H vP vL P SK Si L t c rb rv R) (hr : RV b V vP vL' P L') (hre : Rel Si' L' t' c') (hok : Okay P Si'.t Si'.l Si'.n) :
    PickW w0 w (store4 V H vP vL' (.int .i64 t') (.int .i64 c')) s q pv b H vP vL' P SK Si' L' t' c' rb rv R :=
  ⟨⟨h.sch.at_.far h.box (store4_turn (Turn.refl (At H) V) (.inl rfl) _ _ _ _) (fun h2 => store4_turn h2 (.inr h.hw) _ _ _ _), h.sch.ok⟩, ⟨row_store4 hr.p h.box (by decide) _ _ _ _, row_store4 hr.l h.box (by decide) _ _ _ _⟩, hre, hok, store4_blk h.box _ _ _ _, store4_far h.res (by omega) _ _ _ _, row_store4 h.row h.box (by decide) _ _ _ _, h.ks.store4 (by rw [h.hz]; exact Nat.le_refl _) _ _ _ _, Nat.le_trans h.hb (store4_turn (Turn.refl (At H) V) (.inl rfl) _ _ _ _).size, h.hz, h.hw⟩
theorem PickW.cells {V : World} {H rb : Nat} {SK Si : Stt} {rv : Value} {R : List Int} (h : PickW w0 w V s q pv b H vP vL P SK Si L t c rb rv R) :
    (V.cell? ⟨H, 0, none⟩ = some vP ∧ V.cell? ⟨H, 1, none⟩ = some vL ∧ V.cell? ⟨H, 2, none⟩ = some (.int .i64 t) ∧ V.cell? ⟨H, 3, none⟩ = some (.int .i64 c)) ∧ V.frozen? ⟨H, 0, none⟩ = false ∧ V.frozen? ⟨H, 1, none⟩ = false ∧ V.frozen? ⟨H, 2, none⟩ = false ∧ V.frozen? ⟨H, 3, none⟩ = false :=
  ⟨⟨by rw [blk_cell h.box]; rfl, by rw [blk_cell h.box]; rfl, by rw [blk_cell h.box]; rfl, by rw [blk_cell h.box]; rfl⟩, blk_frozen h.box _, blk_frozen h.box _, blk_frozen h.box _, blk_frozen h.box _⟩
/-- The end: the result is written. -/
theorem PickW.stored {V : World} {H rb : Nat} {SK Si : Stt} {rv : Value} {R : List Int} (h : PickW w0 w V s q pv b H vP vL P SK Si L t c rb rv R) (hs : SK = Si) (hsep : ∀ k, vP.ownBlock = some k → pv.ownBlock ≠ some k) :
    (store4 V (H + 1) vP vL (.int .i64 t) (.int .i64 c)).heap[H + 1]? = some (.cells #[vP, vL, .int .i64 t, .int .i64 c] 40 (0, 0)) ∧ Both w0 (store4 V (H + 1) vP vL (.int .i64 t) (.int .i64 c)) s q pv b vP vL P SK L t c ∧ Ks w (store4 V (H + 1) vP vL (.int .i64 t) (.int .i64 c)) := by
  subst hs
  have hB : Both w0 V s q pv b vP vL P SK L t c := ⟨h.sch, h.rvv, h.rel, hsep, h.hb⟩
  exact ⟨store4_blk h.res _ _ _ _, hB.store4 h.res (by have := h.hw; omega) _ _ _ _, h.ks.store4 (by rw [h.hz]; omega) _ _ _ _⟩
set_option maxHeartbeats 8000000 in
theorem picks_any (h : Both w0 w s q pv b vP vL P S L t c) (hl : S.l.length ≤ 900) (hn : S.n ≤ 700000) (hc0 : 0 ≤ c) (hc1 : c ≤ 1000000) (m : Int) :
    Calls Try.prog 19 #[.pointer (some ⟨s, 0, none⟩), .agg #[vP, vL, .int .i64 t, .int .i64 c], .int .i64 m] w fun e w' => ∃ vL' S' L' t' c', e = .returned (.tuple #[.agg #[vP, vL', .int .i64 t', .int .i64 c'], .bool true]) ∧
      Both w0 w' s q pv b vP vL' P S' L' t' c' ∧ S'.l.length ≤ S.l.length ∧ S'.n ≤ S.n + 9 ∧ 0 ≤ c' ∧ c' ≤ c + 9 ∧ Ks w w' := by
  obtain ⟨A1, n1, rfl, _⟩ := own_slice h.rv.p
  obtain ⟨A2, n2, rfl, _⟩ := own_slice h.rv.l
  obtain ⟨k, hk⟩ : ∃ k : Nat, (if (if 9 < m then 9 else m) < 0 then 0 else (if 9 < m then 9 else m)) = (k : Int) := ⟨(if (if 9 < m then 9 else m) < 0 then 0 else (if 9 < m then 9 else m)).toNat, by split <;> split <;> omega⟩
  obtain ⟨mm, hmm⟩ : ∃ mm, (if 9 < m then 9 else m) = mm := ⟨_, rfl⟩
  rw [hmm] at hk
  have hk9 : k ≤ 9 ∧ (mm < 0 ∧ k = 0 ∨ mm = (k : Int)) := by
    have h1 : mm ≤ 9 := by rw [← hmm]; split <;> omega
    by_cases h2 : mm < 0
    · rw [if_pos h2] at hk; omega
    · rw [if_neg h2] at hk; omega
  have H0 := Lib.hid h
  have HB := Lib.hid (And.intro hl (And.intro hn (And.intro hc0 hc1)))
  have HK := Lib.hid (And.intro hk9.1 (And.intro hk9.2 hk))
  clear h hl hn hc0 hc1 hk9 hk
  go_enter Try.func19, Try.ntmps19
  go_wp2_with fail
  obtain ⟨H, hH⟩ : ∃ H, w.heap.size = H := ⟨_, rfl⟩
  have HA : Hid (((w.alloc (.cells #[.slice A1 P.length n1, .slice A2 L.length n2, .int .i64 t, .int .i64 c] 40)).alloc (.cells #[.slice none 0 0, .slice none 0 0, .int .i64 0, .int .i64 0] 40)).heap[H]? = some (.cells #[.slice A1 P.length n1, .slice A2 L.length n2, .int .i64 t, .int .i64 c] 40 (0, 0)) ∧ ((w.alloc (.cells #[.slice A1 P.length n1, .slice A2 L.length n2, .int .i64 t, .int .i64 c] 40)).alloc (.cells #[.slice none 0 0, .slice none 0 0, .int .i64 0, .int .i64 0] 40)).heap[H + 1]? = some (.cells #[.slice none 0 0, .slice none 0 0, .int .i64 0, .int .i64 0] 40 (0, 0)) ∧ Turn Nope w ((w.alloc (.cells #[.slice A1 P.length n1, .slice A2 L.length n2, .int .i64 t, .int .i64 c] 40)).alloc (.cells #[.slice none 0 0, .slice none 0 0, .int .i64 0, .int .i64 0] 40))) :=
    ⟨by rw [← hH]; exact blk_alloc (blk_new _ _) _, by rw [← hH]; exact blk_new1 _ _ _, ((Turn.refl _ _).alloc _).alloc _⟩
  rw [hH]
  have HH := Lib.hid hH
  clear hH
  refine (?_ : Calls _ _ _ ((w.alloc (.cells #[.slice A1 P.length n1, .slice A2 L.length n2, .int .i64 t, .int .i64 c] 40)).alloc (.cells #[.slice none 0 0, .slice none 0 0, .int .i64 0, .int .i64 0] 40)) _)
  generalize (w.alloc (.cells #[.slice A1 P.length n1, .slice A2 L.length n2, .int .i64 t, .int .i64 c] 40)).alloc (.cells #[.slice none 0 0, .slice none 0 0, .int .i64 0, .int .i64 0] 40) = w1 at HA ⊢
  have H1 := Lib.hid (H0.out.nope HA.out.2.2)
  refine (sch_picks H1.out.sch (by have := HB.out.1; omega) (by have := HB.out.2.1; omega) mm k HK.out.2.2 (by have := HK.out.1; omega)).mono ?_
  rintro e w2 ⟨v, rfl, hrow, hsc, hks⟩
  obtain ⟨R, hR⟩ : ∃ R, (runT P k S).1 = R := ⟨_, rfl⟩
  obtain ⟨SK, hSK⟩ : ∃ SK, (runT P k S).2 = SK := ⟨_, rfl⟩
  rw [hR] at hrow
  rw [hSK] at hsc
  have HRS := Lib.hid (And.intro hR hSK)
  obtain ⟨Ar, nr, rfl, hnr⟩ := own_slice hrow
  have HW0 : Hid (PickW w0 w w2 s q pv b H (.slice A1 P.length n1) (.slice A2 L.length n2) P SK (runT P 0 S).2 L t c w1.heap.size (.slice Ar R.length nr) R) :=
    ⟨hsc, H1.out.rv.ks hks, H1.out.rel, H1.out.sch.ok, hks.cells _ _ _ HA.out.1 (by decide) (by decide) (by decide) (by decide), hks.cells _ _ _ HA.out.2.1 (by decide) (by decide) (by decide) (by decide), hrow, (Ks.ofNope HA.out.2.2).trans hks, Nat.le_trans H1.out.hb hks.size, HH.out, by have h1 := H0.out.sch.turn.size; have h2 := HH.out; omega⟩
  have HRL : Hid (R.length ≤ k) := by rw [← hR]; exact (runT_bd P k S).2.2
  clear hrow hsc hks hR hSK
  go_wp2_with fail
  go_loopg [9] k (fun kk v9 wr => ∃ (i : Nat) (vLi : Value) (Li : List One3) (ti ci : Int), v9 = .int .i64 (i : Int) ∧ Hid (kk + i = k) ∧ Hid (PickW w0 w wr s q pv b H (.slice A1 P.length n1) vLi P SK (runT P i S).2 Li ti ci w1.heap.size (.slice Ar R.length nr) R ∧ 0 ≤ ci ∧ ci ≤ c + i ∧ (runT P i S).1.length = i))
  case atStart => exact ⟨0, _, L, t, c, rfl, rfl, HW0.out, HB.out.2.2.1, by omega, rfl⟩
  case round =>
    obtain ⟨i, vLi, Li, ti, ci, rfl, hkk, hS⟩ := hrel
    clear HW0
    obtain ⟨A3, n3, rfl, _⟩ := own_slice hS.out.1.rvv.l
    by_cases hlt : i < k
    · have b1 : decide ((i : Int) < mm) = true := by have := HK.out.2.1; simp; omega
      have HW : Hid (wrap64 ((i : Int) + 1) = (i : Int) + 1) := IntWalk.wrap64_in _ ⟨by omega, by have := HK.out.1; omega⟩
      obtain ⟨⟨k0, k1, k2, k3⟩, -⟩ := hS.out.1.cells
      rcases hst : stepT P (runT P i S).2 with _ | ⟨who, S'⟩
      · have hLn := hS.out.1.rel.idle P hst
        subst hLn
        go_wp2_with fail
        clear k0 k1 k2 k3
        refine (ref_next_none hS.out.1.rvv hS.out.1.hb ti ci).mono ?_
        rintro e w3 ⟨rfl, ht⟩
        have hstop := runT_stop hst (k - i)
        rw [show i + (k - i) = k by omega] at hstop
        have hRi : R.length = i := by rw [← HRS.out.1, hstop]; exact hS.out.2.2.2
        have hSi : SK = (runT P i S).2 := by rw [← HRS.out.2, hstop]
        have HNE : Hid (SK.l.length ≤ S.l.length ∧ SK.n ≤ S.n + 9 ∧ 0 ≤ ci ∧ ci ≤ c + 9) := by
          have h1 := runT_bd P i S
          rw [← hSi] at h1
          have h2 := HK.out.1
          have h3 := hS.out.2.2.1
          exact ⟨h1.1, by omega, hS.out.2.1, by omega⟩
        have HP3 := Lib.hid ((hS.out.1.nope ht).nope ((Turn.refl _ _).alloc (.cells #[.slice A1 P.length n1, .slice A3 0 n3, .int .i64 ti, .int .i64 ci] 40)))
        have HE := Lib.hid (HP3.out.stored hSi H0.out.sep)
        clear hstop hSi hst ht hS
        obtain ⟨⟨k0, k1, k2, k3⟩, -⟩ := HP3.out.cells
        obtain ⟨⟨q0, q1, q2, q3⟩, g0, g1, g2, g3⟩ := zero_cells HP3.out.res
        have d1 : ((R.length : Int) == (i : Int)) = true := by rw [hRi]; simp
        go_wp2_with fail
        clear k0 k1 k2 k3 q0 q1 q2 q3 g0 g1 g2 g3 d1
        refine (?_ : bodyPost _ _ _ _ _ (store4 (w3.alloc (.cells #[.slice A1 P.length n1, .slice A3 0 n3, .int .i64 ti, .int .i64 ci] 40)) (H + 1) (.slice A1 P.length n1) (.slice A3 0 n3) (.int .i64 ti) (.int .i64 ci)))
        generalize store4 (w3.alloc (.cells #[.slice A1 P.length n1, .slice A3 0 n3, .int .i64 ti, .int .i64 ci] 40)) (H + 1) (.slice A1 P.length n1) (.slice A3 0 n3) (.int .i64 ti) (.int .i64 ci) = wE at HE ⊢
        have e0 := blk_cell HE.out.1 0
        have e1 := blk_cell HE.out.1 1
        have e2 := blk_cell HE.out.1 2
        have e3 := blk_cell HE.out.1 3
        simp only [List.getElem?_toArray, List.getElem?_cons_zero, List.getElem?_cons_succ] at e0 e1 e2 e3
        exact bodyPost_ret (v := .tuple #[.agg #[.slice A1 P.length n1, .slice A3 0 n3, .int .i64 ti, .int .i64 ci], .bool true]) (by simp [results, Try.results19, go_sem, e0, e1, e2, e3]) rfl ⟨_, SK, [], ti, ci, rfl, HE.out.2.1, HNE.out.1, HNE.out.2.1, HNE.out.2.2.1, HNE.out.2.2.2, HE.out.2.2⟩
      · have hok := okay_step hS.out.1.ok hS.out.1.rel.rises hst
        obtain ⟨j, hj, hjl⟩ := hok.2.2
        subst hj
        obtain ⟨kz, z, hmin, hzw, hzt, hrel⟩ := hS.out.1.rel.pick P hst
        have hpj : P[j]? = some (paceAt P (j : Int)) := by
          unfold paceAt
          rw [Int.toNat_natCast, List.getD_eq_getElem?_getD, List.getElem?_eq_getElem hjl]; rfl
        have hpi := hS.out.1.ok.pace _ (List.mem_of_getElem? hpj)
        have hbd := runT_bd P i S
        have hbs := stepT_bd hst
        have hzb : 0 ≤ z.at_ ∧ z.at_ ≤ 1000000000000 := by
          rw [← hzt]
          have h1 := hok.1.t0
          have h2 := hok.1.t1
          have h3 := HB.out.2.1
          have h4 := HK.out.1
          omega
        have hLl : Li.length ≤ 1000 := by rw [← hS.out.1.rel.len]; have := HB.out.1; omega
        have hnx := runT_snoc P i S
        rw [hst] at hnx
        have hnx : runT P (i + 1) S = ((runT P i S).1 ++ [(j : Int)], S') := hnx
        have hat := runT_at hst hS.out.2.2.2 hlt
        rw [HRS.out.1] at hat
        have hcall := ref_next_some (t := ti) (c := ci) hS.out.1.rvv hS.out.1.hb hLl hmin hzw hpj hpi.1 hpi.2 hzb.1 hzb.2 hS.out.2.1 (by have h1 := hS.out.2.2.1; have h2 := HB.out.2.2.2; have h3 := HK.out.1; omega)
        rw [hzw] at hcall
        have HREL := Lib.hid (hrel j rfl)
        have HOK := Lib.hid hok.1
        have HNX := Lib.hid hnx
        have HAT := Lib.hid hat
        have hil : i < R.length := hat.2
        clear hok hjl hmin hzw hzt hrel hpj hpi hbd hbs hzb hLl hnx hat hst
        go_wp2_with fail
        clear k0 k1 k2 k3
        refine hcall.mono ?_
        clear hcall
        rintro e w3 ⟨vL', rfl, hr, ht⟩
        obtain ⟨L', hL'⟩ : ∃ L', dueR P (rdropL (j : Int) Li) z.at_ ci j (paceAt P (j : Int)) = L' := ⟨_, rfl⟩
        rw [hL'] at hr
        have hre := HREL.out
        rw [hL'] at hre
        obtain ⟨A5, n5, rfl, _⟩ := own_slice hr.l
        have HP3 := Lib.hid ((hS.out.1.nope ht).nope ((Turn.refl _ _).alloc (.cells #[.slice A1 P.length n1, .slice A5 L'.length n5, .int .i64 z.at_, .int .i64 (ci + 1)] 40)))
        have HP4 := Lib.hid (HP3.out.boxed (hr.nope ((Turn.refl _ _).alloc _)) hre HOK.out)
        have HCI := Lib.hid hS.out.2
        clear hL' hre hr ht hS
        obtain ⟨⟨k0, k1, k2, k3⟩, f0, f1, f2, f3⟩ := HP3.out.cells
        have d0 : decide ((j : Int) < 0) = false := by simp
        go_upto_region 10 with (fail)
        clear k0 k1 k2 k3 f0 f1 f2 f3 d0
        refine (?_ : Code.wp _ _ _ _ (store4 (w3.alloc (.cells #[.slice A1 P.length n1, .slice A5 L'.length n5, .int .i64 z.at_, .int .i64 (ci + 1)] 40)) H (.slice A1 P.length n1) (.slice A5 L'.length n5) (.int .i64 z.at_) (.int .i64 (ci + 1))))
        generalize store4 (w3.alloc (.cells #[.slice A1 P.length n1, .slice A5 L'.length n5, .int .i64 z.at_, .int .i64 (ci + 1)] 40)) H (.slice A1 P.length n1) (.slice A5 L'.length n5) (.int .i64 z.at_) (.int .i64 (ci + 1)) = w4 at HP4 ⊢
        clear HP3
        obtain ⟨gr, cr, e7, _⟩ := World.ownsRow.form HP4.out.row (by omega)
        injection e7 with e7 e8 e9
        subst e7; subst e9
        clear e8
        have hwi : (whoI R)[i]? = some (.int .i64 (j : Int)) := by
          unfold whoI
          rw [List.getElem?_map, HAT.out.1]; rfl
        have cr0 := own_elem HP4.out.row i hwi
        clear hwi
        have c1 : decide ((R.length : Int) ≤ (i : Int)) = false := by simp; omega
        have c1n : decide (R.length ≤ i) = false := by simp; omega
        have j0 : (0 : Int) ≤ (i : Int) := by omega
        have j1 : (i : Int) < (R.length : Int) := by omega
        have hw := HW.out
        go_wp2_with fail
        clear hw c1 c1n j0 j1 cr0
        go_roundg (k - (i + 1))
        case measure => have := hkk.out; omega
        case rel =>
          refine ⟨i + 1, .slice A5 L'.length n5, L', z.at_, ci + 1, by first | (rw [HW.out]; rfl) | rfl, by have := hkk.out; show _ = _; omega, ?_, by have := HCI.out.1; omega, by have := HCI.out.2.1; omega, ?_⟩
          · rw [HNX.out]; exact HP4.out
          · rw [HNX.out]; show ((runT P i S).1 ++ [(j : Int)]).length = i + 1; rw [List.length_append, HCI.out.2.2]; rfl
    · obtain rfl : i = k := by have := hkk.out; omega
      have b1 : decide ((i : Int) < mm) = false := by have := HK.out.2.1; simp; omega
      have hRi : R.length = i := by rw [← HRS.out.1]; exact hS.out.2.2.2
      have HNE : Hid (SK.l.length ≤ S.l.length ∧ SK.n ≤ S.n + 9 ∧ 0 ≤ ci ∧ ci ≤ c + 9) := by
        have h1 := runT_bd P i S
        rw [HRS.out.2] at h1
        have h2 := HK.out.1
        have h3 := hS.out.2.2.1
        exact ⟨h1.1, by omega, hS.out.2.1, by omega⟩
      have HP3 := Lib.hid hS.out.1
      have HE := Lib.hid (HP3.out.stored HRS.out.2.symm H0.out.sep)
      obtain ⟨Ln, hLn⟩ : ∃ Ln, Li.length = Ln := ⟨_, rfl⟩
      obtain ⟨⟨k0, k1, k2, k3⟩, -⟩ := HP3.out.cells
      obtain ⟨⟨q0, q1, q2, q3⟩, g0, g1, g2, g3⟩ := zero_cells HP3.out.res
      rw [hLn] at HE k1
      have hk := HK.out.2.2
      have d1 : ((R.length : Int) == (i : Int)) = true := by rw [hRi]; simp
      clear hLn hS hlt hRi
      go_wp2_with fail
      clear k0 k1 k2 k3 q0 q1 q2 q3 g0 g1 g2 g3 d1 hk
      refine (?_ : bodyPost _ _ _ _ _ (store4 wr (H + 1) (.slice A1 P.length n1) (.slice A3 Ln n3) (.int .i64 ti) (.int .i64 ci)))
      generalize store4 wr (H + 1) (.slice A1 P.length n1) (.slice A3 Ln n3) (.int .i64 ti) (.int .i64 ci) = wE at HE ⊢
      have e0 := blk_cell HE.out.1 0
      have e1 := blk_cell HE.out.1 1
      have e2 := blk_cell HE.out.1 2
      have e3 := blk_cell HE.out.1 3
      simp only [List.getElem?_toArray, List.getElem?_cons_zero, List.getElem?_cons_succ] at e0 e1 e2 e3
      exact bodyPost_ret (v := .tuple #[.agg #[.slice A1 P.length n1, .slice A3 Ln n3, .int .i64 ti, .int .i64 ci], .bool true]) (by simp [results, Try.results19, go_sem, e0, e1, e2, e3]) rfl ⟨_, SK, Li, ti, ci, rfl, HE.out.2.1, HNE.out.1, HNE.out.2.1, HNE.out.2.2.1, HNE.out.2.2.2, HE.out.2.2⟩
end Go.Proofs.Ytdojdhpfhjhmfaa
