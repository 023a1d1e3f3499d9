/- Any paces, any calls: the main walk of SchedPlays. -/
import Derived.Test.YtdojdhpfhjhmfaaNpick
set_option maxRecDepth 16000
set_option linter.unusedVariables false
set_option linter.unusedSimpArgs false
namespace Go.Proofs.Ytdojdhpfhjhmfaa
open Go.RowKit
/-- Both sides, the document's in its box, what bounds them. -/
structure PlayW (w w1 V : World) (s q g b nq : Nat) (pv : Value) (i : Nat) (vP vL : Value) (P : List Int) (S : Stt) (L : List One3) (t c : Int) : Prop where
  both : Both w1 V s q pv b vP vL P S L t c
  box : V.heap[g]? = some (.cells #[vP, vL, .int .i64 t, .int .i64 c] 40 (0, 0))
  tn : Turn Nope w V
  len : P.length = nq
  bd : S.l.length ≤ 6 + i ∧ S.n ≤ 6 + 9 * i ∧ 0 ≤ c ∧ c ≤ 6 + 9 * (i : Int)
  hg : w.heap.size ≤ g ∧ w1.heap.size ≤ g
theorem PlayW.nope {w w1 V V' : World} {s q g b nq i : Nat} {pv vP vL : Value} {P : List Int} {S : Stt} {L : List One3} {t c : Int} (h : PlayW w w1 V s q g b nq pv i vP vL P S L t c) (ht : Turn Nope V V') : PlayW w w1 V' s q g b nq pv i vP vL P S L t c :=
  ⟨h.both.nope ht, ht.blk h.box fun h => h, h.tn.trans ht, h.len, h.bd, h.hg⟩
theorem PlayW.cells {w w1 V : World} {s q g b nq i : Nat} {pv vP vL : Value} {P : List Int} {S : Stt} {L : List One3} {t c : Int} (h : PlayW w w1 V s q g b nq pv i vP vL P S L t c) :
    (V.cell? ⟨g, 0, none⟩ = some vP ∧ V.cell? ⟨g, 1, none⟩ = some vL ∧ V.cell? ⟨g, 2, none⟩ = some (.int .i64 t) ∧ V.cell? ⟨g, 3, none⟩ = some (.int .i64 c)) ∧ V.frozen? ⟨g, 0, none⟩ = false ∧ V.frozen? ⟨g, 1, none⟩ = false ∧ V.frozen? ⟨g, 2, none⟩ = false ∧ V.frozen? ⟨g, 3, none⟩ = false :=
  ⟨⟨by rw [blk_cell h.box]; rfl, by rw [blk_cell h.box]; rfl, by rw [blk_cell h.box]; rfl, by rw [blk_cell h.box]; rfl⟩, blk_frozen h.box _, blk_frozen h.box _, blk_frozen h.box _, blk_frozen h.box _⟩
theorem PlayW.all {w w1 V : World} {s q g b nq i : Nat} {pv vP vL : Value} {P : List Int} {S : Stt} {L : List One3} {t c : Int} (h : PlayW w w1 V s q g b nq pv i vP vL P S L t c) :
    PlayW w w1 V s q g b nq pv i vP vL P S L t c ∧ V.cell? ⟨g, 1, none⟩ = some vL ∧ V.cell? ⟨g, 2, none⟩ = some (.int .i64 t) ∧ V.cell? ⟨s, 0, none⟩ = some (.pointer (some ⟨q, 0, none⟩)) :=
  ⟨h, h.cells.1.2.1, h.cells.1.2.2.1, by rw [blk_cell h.both.sch.at_.hs]; rfl⟩
theorem PlayW.more {w w1 V : World} {s q g b nq i j : Nat} {pv vP vL : Value} {P : List Int} {S : Stt} {L : List One3} {t c : Int} (h : PlayW w w1 V s q g b nq pv i vP vL P S L t c) (hij : i ≤ j) : PlayW w w1 V s q g b nq pv j vP vL P S L t c :=
  ⟨h.both, h.box, h.tn, h.len, by have h1 := h.bd; omega, h.hg⟩
theorem box4 {V : World} {g : Nat} {x y z u : Value} (h : V.heap[g]? = some (.cells #[x, y, z, u] 40 (0, 0))) : (V.cell? ⟨g, 0, none⟩ = some x ∧ V.cell? ⟨g, 1, none⟩ = some y ∧ V.cell? ⟨g, 2, none⟩ = some z ∧ V.cell? ⟨g, 3, none⟩ = some u) ∧ V.frozen? ⟨g, 0, none⟩ = false ∧ V.frozen? ⟨g, 1, none⟩ = false ∧ V.frozen? ⟨g, 2, none⟩ = false ∧ V.frozen? ⟨g, 3, none⟩ = false :=
  ⟨⟨by rw [blk_cell h]; rfl, by rw [blk_cell h]; rfl, by rw [blk_cell h]; rfl, by rw [blk_cell h]; rfl⟩, blk_frozen h _, blk_frozen h _, blk_frozen h _, blk_frozen h _⟩
theorem setT_len (S : Stt) (j : Nat) (p : Int) : (setT S j p).l.length ≤ S.l.length + 1 := Nat.le_trans (dueL_len _ _ _ _) (Nat.succ_le_succ (List.length_filter_le _ _))
/-- A call's answer is put into the box. -/
theorem PlayW.step {w w1 V V' : World} {s q g b nq i : Nat} {pv vP vL vP' vL' : Value} {P P' : List Int} {S S' : Stt} {L L' : List One3} {t c t' c' : Int} (h : PlayW w w1 V s q g b nq pv i vP vL P S L t c) (ht : Turn Nope w w1)
    (hB : Both w1 V' s q pv b vP' vL' P' S' L' t' c') (hbox : V'.heap[g]? = some (.cells #[vP, vL, .int .i64 t, .int .i64 c] 40 (0, 0))) (hl : P'.length = P.length) (hbd : S'.l.length ≤ S.l.length + 1 ∧ S'.n ≤ S.n + 9 ∧ 0 ≤ c' ∧ c' ≤ c + 9) :
    PlayW w w1 (store4 V' g vP' vL' (.int .i64 t') (.int .i64 c')) s q g b nq pv (i + 1) vP' vL' P' S' L' t' c' :=
  ⟨hB.store4 hbox h.hg.2 _ _ _ _, store4_blk hbox _ _ _ _, store4_turn (ht.trans hB.sch.turn) (.inr h.hg.1) _ _ _ _, hl.trans h.len, by have h1 := h.bd; omega, h.hg⟩
theorem PlayW.kept {w w1 V V' : World} {s q g b nq i : Nat} {pv vP vL : Value} {P : List Int} {S : Stt} {L : List One3} {t c : Int} (h : PlayW w w1 V s q g b nq pv i vP vL P S L t c) (ht : Turn Nope w w1)
    (hB : Both w1 V' s q pv b vP vL P S L t c) (hbox : V'.heap[g]? = some (.cells #[vP, vL, .int .i64 t, .int .i64 c] 40 (0, 0))) : PlayW w w1 V' s q g b nq pv (i + 1) vP vL P S L t c :=
  ⟨hB, hbox, ht.trans hB.sch.turn, h.len, by have h1 := h.bd; omega, h.hg⟩
theorem Both.keptB {w0 w w' : World} {s q b : Nat} {pv vP vL : Value} {P : List Int} {S : Stt} {L : List One3} {t c : Int} (h : Both w0 w s q pv b vP vL P S L t c) (hs : Sch w0 w' s q pv P S) (hk : Ks w w') : Both w0 w' s q pv b vP vL P S L t c :=
  ⟨hs, h.rv.ks hk, h.rel, h.sep, Nat.le_trans h.hb hk.size⟩
theorem Kx.cells {pv : Value} {w w' : World} (h : Kx pv w w') (g : Nat) (cs : Array Value) (t : TypeId) (hg : w.heap[g]? = some (.cells cs t (0, 0))) (h1 : t ≠ 71) (h2 : t ≠ 68) (h3 : t ≠ 84) (h4 : t ≠ 35) (hn : pv.ownBlock ≠ some g) : w'.heap[g]? = some (.cells cs t (0, 0)) :=
  h.keep g _ hg (fun e => by rcases e with e | e | e | e; exact h1 e; exact h2 e; exact h3 e; exact h4 e) hn
theorem Kx.row {pv : Value} {w w' : World} (h : Kx pv w w') {base e size m : Nat} {v : Value} {xs : List Value} (hr : w.ownsRow base e size v m xs) (h1 : e ≠ 71) (h2 : e ≠ 68) (h3 : e ≠ 84) (h4 : e ≠ 35) (hn : ∀ k, v.ownBlock = some k → pv.ownBlock ≠ some k) : w'.ownsRow base e size v m xs := by
  refine ⟨hr.1, ?_⟩
  rcases hr.2 with hx | ⟨g, cap, cur, hv, hb, hh, rest⟩
  · exact .inl hx
  · exact .inr ⟨g, cap, cur, hv, hb, h.cells g cur e hh h1 h2 h3 h4 (hn g (by rw [hv]; rfl)), rest⟩
/-- A pace is set on the schedule: the document's stays. -/
theorem RV.kx {b : Nat} {w w' : World} {pv vP vL : Value} {P Q : List Int} {L : List One3} {b2 : Nat} (h : RV b w vP vL P L) (hk : Kx pv w w') (hp : w.ownsRow b2 3 1 pv Q.length (nums Q)) (hs : ∀ k, vP.ownBlock = some k → pv.ownBlock ≠ some k) : RV b w' vP vL P L :=
  ⟨hk.row h.p (by decide) (by decide) (by decide) (by decide) hs, hk.row h.l (by decide) (by decide) (by decide) (by decide) fun k hk1 hk2 => own_apart h.l hp (by decide) k hk1 hk2⟩
/- plan of the loop's state: exists P S L t c vP vL, Both w wr s q pv b vP vL P S L t c, box at block g (type 40) holds (vP, vL, t, c), P.length = qs.length, S.l.length <= 6 + i, S.n <= 6 + 9 * i, 0 <= c <= 6 + 9 * i, w.heap.size <= g -/
set_option maxHeartbeats 16000000 in
theorem plays_walk (a : Option Addr) (len cap : Nat) (b : Option Addr) (lenb capb : Nat) (w : World) (hin : IntsIn w a len ∧ len ≤ cap) (hacts : ActsIn w b lenb) :
    Calls Try.prog 5 #[.slice a len cap, .slice b lenb capb] w fun e w' => e = .returned (.bool true) ∧ Below w.heap.size w w' := by
  obtain ⟨⟨hmx, ps, hps, hA, hwf⟩, hc⟩ := hin
  subst hps
  have HA := Lib.hid hA
  have HAC := Lib.hid hacts
  have HF := Lib.hid (fun (W : World) (h : NumsAt W a ps) => few_any h cap hc hmx)
  clear hA hacts hmx hwf hc
  go_enter Try.func5, Try.ntmps5
  go_wp2_with fail
  refine (awake_any _).mono ?_
  rintro e w1 ⟨rfl, ht⟩
  have HT1 := Lib.hid ht
  have HA1 := Lib.hid (HA.out.later ht)
  clear ht
  go_wp2_with fail
  refine (HF.out _ HA1.out).mono ?_
  rintro e w2 ⟨c2, rfl, rfl⟩
  obtain ⟨qs, hqs⟩ : ∃ qs, ps.take 6 = qs := ⟨_, rfl⟩
  have hq6 : qs.length ≤ 6 := by rw [← hqs, List.length_take]; omega
  have HA2 := Lib.hid (HA1.out.take 6)
  rw [hqs] at HA2 ⊢
  clear HA HA1 HF hqs
  go_wp2_with fail
  refine (sch_new _ a c2 qs HA2.out (by omega)).mono ?_
  rintro e w3 ⟨s, q, pv, rfl, h3⟩
  have HA3 := Lib.hid (HA2.out.later h3.turn)
  have H3 := Lib.hid h3
  have HTW := Lib.hid (HT1.out.trans h3.turn)
  clear h3
  go_wp2_with fail
  refine (ref_new _ a c2 qs HA3.out (by omega)).mono ?_
  rintro e w4 ⟨vP, vL, rfl, hrv, ht⟩
  obtain ⟨P, hP⟩ : ∃ P, qs.map paceOf = P := ⟨_, rfl⟩
  have hPl : P.length = qs.length := by rw [← hP, List.length_map]
  rw [hP] at hrv H3
  have hnr := newR_len P.length P rfl
  have HB4 : Hid (Both w1 w4 s q pv w3.heap.size vP vL P (newS P) (newR P).2 0 (qs.length : Int)) :=
    ⟨H3.out.nope ht, hrv, by rw [← hPl]; exact hnr.2.2.2, fun k hk hk' => by
      have h1 := own_base hrv.p k hk
      have h2 := (World.ownsRow.lt H3.out.at_.row k hk').2
      omega, ht.size⟩
  have HBN : Hid ((newS P).l.length ≤ 6 ∧ (newS P).n ≤ 6 ∧ P.length = qs.length) := by
    have h1 := newT_len P
    exact ⟨by show (newT P).2.1.length ≤ 6; omega, by show (newT P).2.2 ≤ 6; omega, hPl⟩
  have HT4 := Lib.hid (HTW.out.trans ht)
  obtain ⟨L0, hL0⟩ : ∃ L0, (newR P).2 = L0 := ⟨_, rfl⟩
  obtain ⟨S0, hS0⟩ : ∃ S0, newS P = S0 := ⟨_, rfl⟩
  rw [hL0] at HB4 hrv
  rw [hS0] at HB4 HBN
  obtain ⟨A1, n1, rfl, _⟩ := own_slice hrv.p
  obtain ⟨A2, n2, rfl, _⟩ := own_slice hrv.l
  clear hnr hrv ht H3 HA2 HA3 hP hPl hS0 HTW
  go_wp2_with fail
  have HW0 : Hid (PlayW w w1 (w4.alloc (.cells #[.slice A1 P.length n1, .slice A2 L0.length n2, .int .i64 0, .int .i64 (qs.length : Int)] 40)) s q w4.heap.size w3.heap.size qs.length pv 0 (.slice A1 P.length n1) (.slice A2 L0.length n2) P S0 L0 0 (qs.length : Int)) :=
    ⟨HB4.out.nope ((Turn.refl _ _).alloc _), blk_new _ _, HT4.out.alloc _, HBN.out.2.2, ⟨HBN.out.1, HBN.out.2.1, by omega, by omega⟩, HT4.out.size, by have := HB4.out.sch.turn.size; omega⟩
  generalize w4.alloc (.cells #[.slice A1 P.length n1, .slice A2 L0.length n2, .int .i64 0, .int .i64 (qs.length : Int)] 40) = w5 at HW0 ⊢
  generalize w4.heap.size = g at HW0 ⊢
  clear HB4 HBN HT4
  go_loopg [7] 60 (fun k v7 wr => ∃ (i : Nat) (vP vL : Value) (P : List Int) (S : Stt) (L : List One3) (t c : Int), v7 = .int .i64 (i : Int) ∧ Hid (k + i = 60) ∧ Hid (PlayW w w1 wr s q g w3.heap.size qs.length pv i vP vL P S L t c))
  case atStart => exact ⟨0, _, _, _, _, _, _, _, rfl, rfl, HW0.out⟩
  case round =>
    obtain ⟨i, vQ, vM, Q, T, M, u, d, rfl, hk, hS⟩ := hrel
    clear HW0
    have hw : wrap64 ((i : Int) + 1) = (i : Int) + 1 := IntWalk.wrap64_in _ ⟨by have := hk.out; omega, by have := hk.out; omega⟩
    have HWR := Lib.hid hw
    clear hw
    by_cases hi : i < lenb
    · by_cases hi6 : i < 60
      · have b1 : decide ((i : Int) < (lenb : Int)) = true := by simp; omega
        have b1n : decide (i < lenb) = true := by simp; omega
        have b2 : decide ((i : Int) < 60) = true := by simp; omega
        have b2n : decide (i < 60) = true := by simp; omega
        obtain ⟨ad, kd, who, n, rfl, c0, c1, c2⟩ := HAC.out.2 i hi
        have hb := hS.out.tn.nopeBelow
        have c0 := cell_later hb c0
        have c1 := cell_later hb c1
        have c2 := cell_later hb c2
        have i0 : (0 : Int) ≤ (i : Int) := by omega
        have i1 : (i : Int) < (lenb : Int) := by omega
        obtain ⟨A3, n3, rfl, -⟩ := own_slice hS.out.both.rv.p
        obtain ⟨A4, n4, rfl, -⟩ := own_slice hS.out.both.rv.l
        have HBD := Lib.hid (And.intro hS.out.bd (And.intro hi hi6))
        have HA0 := Lib.hid (And.intro (hS.out.nope ((Turn.refl _ _).alloc (.cells #[.int .i64 kd, .int .i64 who, .int .i64 n] 43))) (blk_new wr (.cells #[.int .i64 kd, .int .i64 who, .int .i64 n] 43)))
        obtain ⟨⟨k0, k1, k2, k3⟩, -⟩ := HA0.out.1.cells
        clear hb hi hi6 hS
        by_cases hk1 : kd = 1
        · have q1 : (kd == 1) = true := by simp [hk1]
          clear hk1
          go_wp2_with fail
          generalize wr.alloc (.cells #[.int .i64 kd, .int .i64 who, .int .i64 n] 43) = wa at *
          generalize wr.heap.size = ab at *
          refine (next_any HA0.out.1.both (by have := HBD.out; omega) (by have := HBD.out; omega) (by have := HBD.out; omega) (by have := HBD.out; omega)).mono ?_
          rintro e w6 ⟨vM', T', M', u', d', rfl, hB, h1, h2, h3, h4, hks⟩
          have HN := Lib.hid (And.intro hB (And.intro (hks.cells _ _ _ HA0.out.1.box (by decide) (by decide) (by decide) (by decide)) (And.intro h1 (And.intro h2 (And.intro h3 h4)))))
          have HP := Lib.hid (HA0.out.1.step HT1.out HN.out.1 HN.out.2.1 rfl (by have := HN.out.2.2; omega))
          clear hB h1 h2 h3 h4 hks k0 k1 k2 k3 c0 c1 c2 q1
          obtain ⟨⟨k0, k1, k2, k3⟩, f0, f1, f2, f3⟩ : (w6.cell? ⟨g, 0, none⟩ = some (.slice A3 Q.length n3) ∧ w6.cell? ⟨g, 1, none⟩ = some (.slice A4 M.length n4) ∧ w6.cell? ⟨g, 2, none⟩ = some (.int .i64 u) ∧ w6.cell? ⟨g, 3, none⟩ = some (.int .i64 d)) ∧ w6.frozen? ⟨g, 0, none⟩ = false ∧ w6.frozen? ⟨g, 1, none⟩ = false ∧ w6.frozen? ⟨g, 2, none⟩ = false ∧ w6.frozen? ⟨g, 3, none⟩ = false := box4 HN.out.2.1
          obtain ⟨A5, n5, rfl, -⟩ := own_slice HN.out.1.rv.l
          go_upto_region 22 with (fail)
          clear k0 k1 k2 k3 f0 f1 f2 f3
          refine (?_ : Code.wp _ _ _ _ (store4 w6 g (.slice A3 Q.length n3) (.slice A5 M'.length n5) (.int .i64 u') (.int .i64 d')))
          generalize store4 w6 g (.slice A3 Q.length n3) (.slice A5 M'.length n5) (.int .i64 u') (.int .i64 d') = wX at HP ⊢
          have e1 : (T'.t != u') = false := by simp [HP.out.both.rel.tick]
          have e2 : ((T'.l.length : Int) != (M'.length : Int)) = false := by simp [HP.out.both.rel.len]
          refine wp_region_held_drew (S := fun W => PlayW w w1 W s q g w3.heap.size qs.length pv (i + 1) (.slice A3 Q.length n3) (.slice A5 M'.length n5) Q T' M' u' d' ∧ W.cell? ⟨g, 1, none⟩ = some (.slice A5 M'.length n5) ∧ W.cell? ⟨g, 2, none⟩ = some (.int .i64 u') ∧ W.cell? ⟨s, 0, none⟩ = some (.pointer (some ⟨q, 0, none⟩))) (by kernel_rfl) (HP.out.nope (Turn.refl _ _).drew).all (fun hHeld => ?_)
          refine' wpAnyH_take (i := 0) (v := _) (by simp only [List.getElem?_toArray, List.getElem?_cons_succ, List.getElem?_cons_zero]; rfl) (by kernel_rfl) (by kernel_rfl) (by kernel_rfl) (by intro _ _ _ h; exact h) (Or.inl ⟨by rfl, ?hyp10⟩) hHeld ?restp10
          case hyp10 => (intro w hSw; (try dsimp only at hSw); go_simp; try (with_reducible rfl))
          simp only [Act.put, List.setIfInBounds_toArray, List.set_cons_zero, List.set_cons_succ]
          refine' wpAnyH_take (i := 1) (v := _) (by simp only [List.getElem?_toArray, List.getElem?_cons_succ, List.getElem?_cons_zero]; rfl) (by kernel_rfl) (by kernel_rfl) (by kernel_rfl) (by intro _ _ _ h; exact h) (Or.inl ⟨by rfl, ?hyp11⟩) hHeld ?restp11
          case hyp11 => (intro w hSw; (try dsimp only at hSw); go_simp; try (with_reducible rfl))
          simp only [Act.put, List.setIfInBounds_toArray, List.set_cons_zero, List.set_cons_succ]
          refine' wpAnyH_take (i := 2) (v := _) (by simp only [List.getElem?_toArray, List.getElem?_cons_succ, List.getElem?_cons_zero]; rfl) (by kernel_rfl) (by kernel_rfl) (by kernel_rfl) (by intro _ _ _ h; exact h) (Or.inl ⟨by rfl, ?hyp12⟩) hHeld ?restp12
          case hyp12 => (intro w hSw; (try dsimp only at hSw); go_simp; try (with_reducible rfl))
          simp only [Act.put, List.setIfInBounds_toArray, List.set_cons_zero, List.set_cons_succ]
          refine' wpAnyH_take (i := 3) (v := _) (by simp only [List.getElem?_toArray, List.getElem?_cons_succ, List.getElem?_cons_zero]; rfl) (by kernel_rfl) (by kernel_rfl) (by kernel_rfl) (by intro _ _ _ h; exact h) (Or.inl ⟨by rfl, ?hyp13⟩) hHeld ?restp13
          case hyp13 => (intro w hSw; (try dsimp only at hSw); go_simp; try (with_reducible rfl))
          simp only [Act.put, List.setIfInBounds_toArray, List.set_cons_zero, List.set_cons_succ]
          refine' wpAnyH_take (i := 5) (v := _) (by simp only [List.getElem?_toArray, List.getElem?_cons_succ, List.getElem?_cons_zero]; rfl) (by kernel_rfl) (by kernel_rfl) (by kernel_rfl) (by intro _ _ _ h; exact h) (Or.inl ⟨by rfl, ?hyp15⟩) hHeld ?restp15
          case hyp15 => (intro w hSw; (try dsimp only at hSw); go_simp; try (with_reducible rfl))
          simp only [Act.put, List.setIfInBounds_toArray, List.set_cons_zero, List.set_cons_succ]
          refine' wpAnyH_take (i := 6) (v := _) (by simp only [List.getElem?_toArray, List.getElem?_cons_succ, List.getElem?_cons_zero]; rfl) (by kernel_rfl) (by kernel_rfl) (by kernel_rfl) (by intro _ _ _ h; exact h) (Or.inl ⟨by rfl, ?hyp16⟩) hHeld ?restp16
          case hyp16 => (intro w hSw; (try dsimp only at hSw); go_simp; try (with_reducible rfl))
          simp only [Act.put, List.setIfInBounds_toArray, List.set_cons_zero, List.set_cons_succ]
          refine wpAnyH_ready (rs := [4]) (by kernel_rfl) (by simp) (AllReadyH.cons (by simp only [List.getElem?_toArray, List.getElem?_cons_succ, List.getElem?_cons_zero]; rfl) (fun K hK => ?_) AllReadyH.nil)
          rw [if_pos (by rfl)]
          go_simp
          refine (sch_tick hHeld.1.both.sch).mono ?_
          rintro e wN ⟨rfl, rfl⟩
          try go_wp2_with fail
          refine hK.out _ _ ?_ (fun hHeld => ?_)
          · exact hHeld
          clear hK K
          try simp only [Act.put, List.setIfInBounds_toArray, List.set_cons_zero, List.set_cons_succ]
          refine' wpAnyH_take (i := 7) (v := _) (by simp only [List.getElem?_toArray, List.getElem?_cons_succ, List.getElem?_cons_zero]; rfl) (by kernel_rfl) (by kernel_rfl) (by kernel_rfl) (by intro _ _ _ h; exact h) (Or.inl ⟨by rfl, ?hyp17⟩) hHeld ?restp17
          case hyp17 => (intro w hSw; (try dsimp only at hSw); go_simp; try (with_reducible rfl))
          simp only [Act.put, List.setIfInBounds_toArray, List.set_cons_zero, List.set_cons_succ]
          refine' wpAnyH_take (i := 8) (v := _) (by simp only [List.getElem?_toArray, List.getElem?_cons_succ, List.getElem?_cons_zero]; rfl) (by kernel_rfl) (by kernel_rfl) (by kernel_rfl) (by intro _ _ _ h; exact h) (Or.inl ⟨by rfl, ?hyp18⟩) hHeld ?restp18
          case hyp18 => (intro w hSw; (try dsimp only at hSw); go_simp; try (with_reducible rfl))
          simp only [Act.put, List.setIfInBounds_toArray, List.set_cons_zero, List.set_cons_succ]
          refine' wpAnyH_take (i := 9) (v := _) (by simp only [List.getElem?_toArray, List.getElem?_cons_succ, List.getElem?_cons_zero]; rfl) (by kernel_rfl) (by kernel_rfl) (by kernel_rfl) (by intro _ _ _ h; exact h) (Or.inl ⟨by rfl, ?hyp19⟩) hHeld ?restp19
          case hyp19 => (intro w hSw; (try dsimp only at hSw); go_simp; try (with_reducible rfl))
          simp only [Act.put, List.setIfInBounds_toArray, List.set_cons_zero, List.set_cons_succ]
          refine' wpAnyH_take (i := 10) (v := _) (by simp only [List.getElem?_toArray, List.getElem?_cons_succ, List.getElem?_cons_zero]; rfl) (by kernel_rfl) (by kernel_rfl) (by kernel_rfl) (by intro _ _ _ h; exact h) (Or.inl ⟨by rfl, ?hyp110⟩) hHeld ?restp110
          case hyp110 => (intro w hSw; (try dsimp only at hSw); go_simp; try (with_reducible rfl))
          simp only [Act.put, List.setIfInBounds_toArray, List.set_cons_zero, List.set_cons_succ]
          refine' wpAnyH_take (i := 11) (v := _) (by simp only [List.getElem?_toArray, List.getElem?_cons_succ, List.getElem?_cons_zero]; rfl) (by kernel_rfl) (by kernel_rfl) (by kernel_rfl) (by intro _ _ _ h; exact h) (Or.inl ⟨by rfl, ?hyp111⟩) hHeld ?restp111
          case hyp111 => (intro w hSw; (try dsimp only at hSw); go_simp; try (with_reducible rfl))
          simp only [Act.put, List.setIfInBounds_toArray, List.set_cons_zero, List.set_cons_succ]
          refine' wpAnyH_take (i := 12) (v := _) (by simp only [List.getElem?_toArray, List.getElem?_cons_succ, List.getElem?_cons_zero]; rfl) (by kernel_rfl) (by kernel_rfl) (by kernel_rfl) (by intro _ _ _ h; exact h) (Or.inl ⟨by rfl, ?hyp112⟩) hHeld ?restp112
          case hyp112 => (intro w hSw; (try dsimp only at hSw); go_simp; try (with_reducible rfl))
          simp only [Act.put, List.setIfInBounds_toArray, List.set_cons_zero, List.set_cons_succ]
          refine' wpAnyH_take (i := 13) (v := _) (by simp only [List.getElem?_toArray, List.getElem?_cons_succ, List.getElem?_cons_zero]; rfl) (by kernel_rfl) (by kernel_rfl) (by kernel_rfl) (by intro _ _ _ h; exact h) (Or.inl ⟨by rfl, ?hyp113⟩) hHeld ?restp113
          case hyp113 => (intro w hSw; (try dsimp only at hSw); go_simp; try (with_reducible rfl))
          simp only [Act.put, List.setIfInBounds_toArray, List.set_cons_zero, List.set_cons_succ]
          refine' wpAnyH_take (i := 15) (v := _) (by simp only [List.getElem?_toArray, List.getElem?_cons_succ, List.getElem?_cons_zero]; rfl) (by kernel_rfl) (by kernel_rfl) (by kernel_rfl) (by intro _ _ _ h; exact h) (Or.inl ⟨by rfl, ?hyp115⟩) hHeld ?restp115
          case hyp115 => (intro w hSw; (try dsimp only at hSw); go_simp; try (with_reducible rfl))
          simp only [Act.put, List.setIfInBounds_toArray, List.set_cons_zero, List.set_cons_succ]
          refine' wpAnyH_take (i := 16) (v := _) (by simp only [List.getElem?_toArray, List.getElem?_cons_succ, List.getElem?_cons_zero]; rfl) (by kernel_rfl) (by kernel_rfl) (by kernel_rfl) (by intro _ _ _ h; exact h) (Or.inl ⟨by rfl, ?hyp116⟩) hHeld ?restp116
          case hyp116 => (intro w hSw; (try dsimp only at hSw); go_simp; try (with_reducible rfl))
          simp only [Act.put, List.setIfInBounds_toArray, List.set_cons_zero, List.set_cons_succ]
          refine' wpAnyH_take (i := 17) (v := _) (by simp only [List.getElem?_toArray, List.getElem?_cons_succ, List.getElem?_cons_zero]; rfl) (by kernel_rfl) (by kernel_rfl) (by kernel_rfl) (by intro _ _ _ h; exact h) (Or.inl ⟨by rfl, ?hyp117⟩) hHeld ?restp117
          case hyp117 => (intro w hSw; (try dsimp only at hSw); go_simp; try (with_reducible rfl))
          simp only [Act.put, List.setIfInBounds_toArray, List.set_cons_zero, List.set_cons_succ]
          refine wpAnyH_ready (rs := [14]) (by kernel_rfl) (by simp) (AllReadyH.cons (by simp only [List.getElem?_toArray, List.getElem?_cons_succ, List.getElem?_cons_zero]; rfl) (fun K hK => ?_) AllReadyH.nil)
          rw [if_pos (by rfl)]
          go_simp
          refine (sch_len hHeld.1.both.sch).mono ?_
          rintro e wN ⟨rfl, rfl⟩
          try go_wp2_with fail
          refine hK.out _ _ ?_ (fun hHeld => ?_)
          · exact hHeld
          clear hK K
          try simp only [Act.put, List.setIfInBounds_toArray, List.set_cons_zero, List.set_cons_succ]
          refine' wpAnyH_take (i := 18) (v := _) (by simp only [List.getElem?_toArray, List.getElem?_cons_succ, List.getElem?_cons_zero]; rfl) (by kernel_rfl) (by kernel_rfl) (by kernel_rfl) (by intro _ _ _ h; exact h) (Or.inl ⟨by rfl, ?hyp118⟩) hHeld ?restp118
          case hyp118 => (intro w hSw; (try dsimp only at hSw); go_simp; try (with_reducible rfl))
          simp only [Act.put, List.setIfInBounds_toArray, List.set_cons_zero, List.set_cons_succ]
          refine' wpAnyH_take (i := 19) (v := _) (by simp only [List.getElem?_toArray, List.getElem?_cons_succ, List.getElem?_cons_zero]; rfl) (by kernel_rfl) (by kernel_rfl) (by kernel_rfl) (by intro _ _ _ h; exact h) (Or.inl ⟨by rfl, ?hyp119⟩) hHeld ?restp119
          case hyp119 => (intro w hSw; (try dsimp only at hSw); go_simp; try (with_reducible rfl))
          simp only [Act.put, List.setIfInBounds_toArray, List.set_cons_zero, List.set_cons_succ]
          refine wpAnyH_done (by kernel_rfl) ?_ _
          clear hHeld e1 e2
          go_wp2_with fail
          have hw := HWR.out
          go_wp2_with fail
          go_roundg (60 - (i + 1))
          case measure => have := hk.out; have := HBD.out; omega
          case rel => exact ⟨i + 1, _, _, _, _, _, _, _, by go_num, by have := hk.out; have := HBD.out; show _ = _; omega, HP.out.nope (by repeat (first | exact Turn.refl _ _ | apply Turn.drewN | apply Turn.drew))⟩
        · by_cases hk2 : kd = 2
          · have q1 : (kd == 1) = false := by simp [hk1]
            have q2 : (kd == 2) = true := by simp [hk2]
            clear hk1 hk2
            by_cases hbad : who < 0 ∨ (Q.length : Int) ≤ who
            · go_wp2_with fail
              generalize wr.alloc (.cells #[.int .i64 kd, .int .i64 who, .int .i64 n] 43) = wa at *
              generalize wr.heap.size = ab at *
              refine (sch_set_bad HA0.out.1.both.sch who n hbad).mono ?_
              rintro e w6 ⟨rfl, hsc, hks⟩
              have HP := Lib.hid (HA0.out.1.kept HT1.out (HA0.out.1.both.keptB hsc hks) (hks.cells _ _ _ HA0.out.1.box (by decide) (by decide) (by decide) (by decide)))
              have HAB := Lib.hid (hks.cells _ _ _ HA0.out.2 (by decide) (by decide) (by decide) (by decide))
              have hql := HP.out.len
              clear hsc hks k0 k1 k2 k3 c0 c1 c2 q1 q2
              have a1 := blk_cell HAB.out 1
              simp only [List.getElem?_toArray, List.getElem?_cons_zero, List.getElem?_cons_succ] at a1
              by_cases hneg : who < 0
              · have d1 : decide (who < 0) = true := by simp; omega
                clear hneg hbad
                go_upto_region 22 with (fail)
                clear a1 d1
                have e1 : (T.t != u) = false := by simp [HP.out.both.rel.tick]
                have e2 : ((T.l.length : Int) != (M.length : Int)) = false := by simp [HP.out.both.rel.len]
                refine wp_region_held_drew (S := fun W => PlayW w w1 W s q g w3.heap.size qs.length pv (i + 1) (.slice A3 Q.length n3) (.slice A4 M.length n4) Q T M u d ∧ W.cell? ⟨g, 1, none⟩ = some (.slice A4 M.length n4) ∧ W.cell? ⟨g, 2, none⟩ = some (.int .i64 u) ∧ W.cell? ⟨s, 0, none⟩ = some (.pointer (some ⟨q, 0, none⟩))) (by kernel_rfl) (HP.out.nope (Turn.refl _ _).drew).all (fun hHeld => ?_)
                refine' wpAnyH_take (i := 0) (v := _) (by simp only [List.getElem?_toArray, List.getElem?_cons_succ, List.getElem?_cons_zero]; rfl) (by kernel_rfl) (by kernel_rfl) (by kernel_rfl) (by intro _ _ _ h; exact h) (Or.inl ⟨by rfl, ?hyp20⟩) hHeld ?restp20
                case hyp20 => (intro w hSw; (try dsimp only at hSw); go_simp; try (with_reducible rfl))
                simp only [Act.put, List.setIfInBounds_toArray, List.set_cons_zero, List.set_cons_succ]
                refine' wpAnyH_take (i := 1) (v := _) (by simp only [List.getElem?_toArray, List.getElem?_cons_succ, List.getElem?_cons_zero]; rfl) (by kernel_rfl) (by kernel_rfl) (by kernel_rfl) (by intro _ _ _ h; exact h) (Or.inl ⟨by rfl, ?hyp21⟩) hHeld ?restp21
                case hyp21 => (intro w hSw; (try dsimp only at hSw); go_simp; try (with_reducible rfl))
                simp only [Act.put, List.setIfInBounds_toArray, List.set_cons_zero, List.set_cons_succ]
                refine' wpAnyH_take (i := 2) (v := _) (by simp only [List.getElem?_toArray, List.getElem?_cons_succ, List.getElem?_cons_zero]; rfl) (by kernel_rfl) (by kernel_rfl) (by kernel_rfl) (by intro _ _ _ h; exact h) (Or.inl ⟨by rfl, ?hyp22⟩) hHeld ?restp22
                case hyp22 => (intro w hSw; (try dsimp only at hSw); go_simp; try (with_reducible rfl))
                simp only [Act.put, List.setIfInBounds_toArray, List.set_cons_zero, List.set_cons_succ]
                refine' wpAnyH_take (i := 3) (v := _) (by simp only [List.getElem?_toArray, List.getElem?_cons_succ, List.getElem?_cons_zero]; rfl) (by kernel_rfl) (by kernel_rfl) (by kernel_rfl) (by intro _ _ _ h; exact h) (Or.inl ⟨by rfl, ?hyp23⟩) hHeld ?restp23
                case hyp23 => (intro w hSw; (try dsimp only at hSw); go_simp; try (with_reducible rfl))
                simp only [Act.put, List.setIfInBounds_toArray, List.set_cons_zero, List.set_cons_succ]
                refine' wpAnyH_take (i := 5) (v := _) (by simp only [List.getElem?_toArray, List.getElem?_cons_succ, List.getElem?_cons_zero]; rfl) (by kernel_rfl) (by kernel_rfl) (by kernel_rfl) (by intro _ _ _ h; exact h) (Or.inl ⟨by rfl, ?hyp25⟩) hHeld ?restp25
                case hyp25 => (intro w hSw; (try dsimp only at hSw); go_simp; try (with_reducible rfl))
                simp only [Act.put, List.setIfInBounds_toArray, List.set_cons_zero, List.set_cons_succ]
                refine' wpAnyH_take (i := 6) (v := _) (by simp only [List.getElem?_toArray, List.getElem?_cons_succ, List.getElem?_cons_zero]; rfl) (by kernel_rfl) (by kernel_rfl) (by kernel_rfl) (by intro _ _ _ h; exact h) (Or.inl ⟨by rfl, ?hyp26⟩) hHeld ?restp26
                case hyp26 => (intro w hSw; (try dsimp only at hSw); go_simp; try (with_reducible rfl))
                simp only [Act.put, List.setIfInBounds_toArray, List.set_cons_zero, List.set_cons_succ]
                refine wpAnyH_ready (rs := [4]) (by kernel_rfl) (by simp) (AllReadyH.cons (by simp only [List.getElem?_toArray, List.getElem?_cons_succ, List.getElem?_cons_zero]; rfl) (fun K hK => ?_) AllReadyH.nil)
                rw [if_pos (by rfl)]
                go_simp
                refine (sch_tick hHeld.1.both.sch).mono ?_
                rintro e wN ⟨rfl, rfl⟩
                try go_wp2_with fail
                refine hK.out _ _ ?_ (fun hHeld => ?_)
                · exact hHeld
                clear hK K
                try simp only [Act.put, List.setIfInBounds_toArray, List.set_cons_zero, List.set_cons_succ]
                refine' wpAnyH_take (i := 7) (v := _) (by simp only [List.getElem?_toArray, List.getElem?_cons_succ, List.getElem?_cons_zero]; rfl) (by kernel_rfl) (by kernel_rfl) (by kernel_rfl) (by intro _ _ _ h; exact h) (Or.inl ⟨by rfl, ?hyp27⟩) hHeld ?restp27
                case hyp27 => (intro w hSw; (try dsimp only at hSw); go_simp; try (with_reducible rfl))
                simp only [Act.put, List.setIfInBounds_toArray, List.set_cons_zero, List.set_cons_succ]
                refine' wpAnyH_take (i := 8) (v := _) (by simp only [List.getElem?_toArray, List.getElem?_cons_succ, List.getElem?_cons_zero]; rfl) (by kernel_rfl) (by kernel_rfl) (by kernel_rfl) (by intro _ _ _ h; exact h) (Or.inl ⟨by rfl, ?hyp28⟩) hHeld ?restp28
                case hyp28 => (intro w hSw; (try dsimp only at hSw); go_simp; try (with_reducible rfl))
                simp only [Act.put, List.setIfInBounds_toArray, List.set_cons_zero, List.set_cons_succ]
                refine' wpAnyH_take (i := 9) (v := _) (by simp only [List.getElem?_toArray, List.getElem?_cons_succ, List.getElem?_cons_zero]; rfl) (by kernel_rfl) (by kernel_rfl) (by kernel_rfl) (by intro _ _ _ h; exact h) (Or.inl ⟨by rfl, ?hyp29⟩) hHeld ?restp29
                case hyp29 => (intro w hSw; (try dsimp only at hSw); go_simp; try (with_reducible rfl))
                simp only [Act.put, List.setIfInBounds_toArray, List.set_cons_zero, List.set_cons_succ]
                refine' wpAnyH_take (i := 10) (v := _) (by simp only [List.getElem?_toArray, List.getElem?_cons_succ, List.getElem?_cons_zero]; rfl) (by kernel_rfl) (by kernel_rfl) (by kernel_rfl) (by intro _ _ _ h; exact h) (Or.inl ⟨by rfl, ?hyp210⟩) hHeld ?restp210
                case hyp210 => (intro w hSw; (try dsimp only at hSw); go_simp; try (with_reducible rfl))
                simp only [Act.put, List.setIfInBounds_toArray, List.set_cons_zero, List.set_cons_succ]
                refine' wpAnyH_take (i := 11) (v := _) (by simp only [List.getElem?_toArray, List.getElem?_cons_succ, List.getElem?_cons_zero]; rfl) (by kernel_rfl) (by kernel_rfl) (by kernel_rfl) (by intro _ _ _ h; exact h) (Or.inl ⟨by rfl, ?hyp211⟩) hHeld ?restp211
                case hyp211 => (intro w hSw; (try dsimp only at hSw); go_simp; try (with_reducible rfl))
                simp only [Act.put, List.setIfInBounds_toArray, List.set_cons_zero, List.set_cons_succ]
                refine' wpAnyH_take (i := 12) (v := _) (by simp only [List.getElem?_toArray, List.getElem?_cons_succ, List.getElem?_cons_zero]; rfl) (by kernel_rfl) (by kernel_rfl) (by kernel_rfl) (by intro _ _ _ h; exact h) (Or.inl ⟨by rfl, ?hyp212⟩) hHeld ?restp212
                case hyp212 => (intro w hSw; (try dsimp only at hSw); go_simp; try (with_reducible rfl))
                simp only [Act.put, List.setIfInBounds_toArray, List.set_cons_zero, List.set_cons_succ]
                refine' wpAnyH_take (i := 13) (v := _) (by simp only [List.getElem?_toArray, List.getElem?_cons_succ, List.getElem?_cons_zero]; rfl) (by kernel_rfl) (by kernel_rfl) (by kernel_rfl) (by intro _ _ _ h; exact h) (Or.inl ⟨by rfl, ?hyp213⟩) hHeld ?restp213
                case hyp213 => (intro w hSw; (try dsimp only at hSw); go_simp; try (with_reducible rfl))
                simp only [Act.put, List.setIfInBounds_toArray, List.set_cons_zero, List.set_cons_succ]
                refine' wpAnyH_take (i := 15) (v := _) (by simp only [List.getElem?_toArray, List.getElem?_cons_succ, List.getElem?_cons_zero]; rfl) (by kernel_rfl) (by kernel_rfl) (by kernel_rfl) (by intro _ _ _ h; exact h) (Or.inl ⟨by rfl, ?hyp215⟩) hHeld ?restp215
                case hyp215 => (intro w hSw; (try dsimp only at hSw); go_simp; try (with_reducible rfl))
                simp only [Act.put, List.setIfInBounds_toArray, List.set_cons_zero, List.set_cons_succ]
                refine' wpAnyH_take (i := 16) (v := _) (by simp only [List.getElem?_toArray, List.getElem?_cons_succ, List.getElem?_cons_zero]; rfl) (by kernel_rfl) (by kernel_rfl) (by kernel_rfl) (by intro _ _ _ h; exact h) (Or.inl ⟨by rfl, ?hyp216⟩) hHeld ?restp216
                case hyp216 => (intro w hSw; (try dsimp only at hSw); go_simp; try (with_reducible rfl))
                simp only [Act.put, List.setIfInBounds_toArray, List.set_cons_zero, List.set_cons_succ]
                refine' wpAnyH_take (i := 17) (v := _) (by simp only [List.getElem?_toArray, List.getElem?_cons_succ, List.getElem?_cons_zero]; rfl) (by kernel_rfl) (by kernel_rfl) (by kernel_rfl) (by intro _ _ _ h; exact h) (Or.inl ⟨by rfl, ?hyp217⟩) hHeld ?restp217
                case hyp217 => (intro w hSw; (try dsimp only at hSw); go_simp; try (with_reducible rfl))
                simp only [Act.put, List.setIfInBounds_toArray, List.set_cons_zero, List.set_cons_succ]
                refine wpAnyH_ready (rs := [14]) (by kernel_rfl) (by simp) (AllReadyH.cons (by simp only [List.getElem?_toArray, List.getElem?_cons_succ, List.getElem?_cons_zero]; rfl) (fun K hK => ?_) AllReadyH.nil)
                rw [if_pos (by rfl)]
                go_simp
                refine (sch_len hHeld.1.both.sch).mono ?_
                rintro e wN ⟨rfl, rfl⟩
                try go_wp2_with fail
                refine hK.out _ _ ?_ (fun hHeld => ?_)
                · exact hHeld
                clear hK K
                try simp only [Act.put, List.setIfInBounds_toArray, List.set_cons_zero, List.set_cons_succ]
                refine' wpAnyH_take (i := 18) (v := _) (by simp only [List.getElem?_toArray, List.getElem?_cons_succ, List.getElem?_cons_zero]; rfl) (by kernel_rfl) (by kernel_rfl) (by kernel_rfl) (by intro _ _ _ h; exact h) (Or.inl ⟨by rfl, ?hyp218⟩) hHeld ?restp218
                case hyp218 => (intro w hSw; (try dsimp only at hSw); go_simp; try (with_reducible rfl))
                simp only [Act.put, List.setIfInBounds_toArray, List.set_cons_zero, List.set_cons_succ]
                refine' wpAnyH_take (i := 19) (v := _) (by simp only [List.getElem?_toArray, List.getElem?_cons_succ, List.getElem?_cons_zero]; rfl) (by kernel_rfl) (by kernel_rfl) (by kernel_rfl) (by intro _ _ _ h; exact h) (Or.inl ⟨by rfl, ?hyp219⟩) hHeld ?restp219
                case hyp219 => (intro w hSw; (try dsimp only at hSw); go_simp; try (with_reducible rfl))
                simp only [Act.put, List.setIfInBounds_toArray, List.set_cons_zero, List.set_cons_succ]
                refine wpAnyH_done (by kernel_rfl) ?_ _
                clear hHeld e1 e2
                go_wp2_with fail
                have hw := HWR.out
                go_wp2_with fail
                go_roundg (60 - (i + 1))
                case measure => have := hk.out; have := HBD.out; omega
                case rel => exact ⟨i + 1, _, _, _, _, _, _, _, by go_num, by have := hk.out; have := HBD.out; show _ = _; omega, HP.out.nope (by repeat (first | exact Turn.refl _ _ | apply Turn.drewN | apply Turn.drew))⟩
              · have d1 : decide (who < 0) = false := by simp; omega
                have d2 : decide ((qs.length : Int) ≤ who) = true := by simp; omega
                have d2' : decide (who ≥ (qs.length : Int)) = true := by simp; omega
                clear hneg hbad
                go_upto_region 22 with (fail)
                clear a1 d1 d2 d2'
                have e1 : (T.t != u) = false := by simp [HP.out.both.rel.tick]
                have e2 : ((T.l.length : Int) != (M.length : Int)) = false := by simp [HP.out.both.rel.len]
                refine wp_region_held_drew (S := fun W => PlayW w w1 W s q g w3.heap.size qs.length pv (i + 1) (.slice A3 Q.length n3) (.slice A4 M.length n4) Q T M u d ∧ W.cell? ⟨g, 1, none⟩ = some (.slice A4 M.length n4) ∧ W.cell? ⟨g, 2, none⟩ = some (.int .i64 u) ∧ W.cell? ⟨s, 0, none⟩ = some (.pointer (some ⟨q, 0, none⟩))) (by kernel_rfl) (HP.out.nope (Turn.refl _ _).drew).all (fun hHeld => ?_)
                refine' wpAnyH_take (i := 0) (v := _) (by simp only [List.getElem?_toArray, List.getElem?_cons_succ, List.getElem?_cons_zero]; rfl) (by kernel_rfl) (by kernel_rfl) (by kernel_rfl) (by intro _ _ _ h; exact h) (Or.inl ⟨by rfl, ?hyp30⟩) hHeld ?restp30
                case hyp30 => (intro w hSw; (try dsimp only at hSw); go_simp; try (with_reducible rfl))
                simp only [Act.put, List.setIfInBounds_toArray, List.set_cons_zero, List.set_cons_succ]
                refine' wpAnyH_take (i := 1) (v := _) (by simp only [List.getElem?_toArray, List.getElem?_cons_succ, List.getElem?_cons_zero]; rfl) (by kernel_rfl) (by kernel_rfl) (by kernel_rfl) (by intro _ _ _ h; exact h) (Or.inl ⟨by rfl, ?hyp31⟩) hHeld ?restp31
                case hyp31 => (intro w hSw; (try dsimp only at hSw); go_simp; try (with_reducible rfl))
                simp only [Act.put, List.setIfInBounds_toArray, List.set_cons_zero, List.set_cons_succ]
                refine' wpAnyH_take (i := 2) (v := _) (by simp only [List.getElem?_toArray, List.getElem?_cons_succ, List.getElem?_cons_zero]; rfl) (by kernel_rfl) (by kernel_rfl) (by kernel_rfl) (by intro _ _ _ h; exact h) (Or.inl ⟨by rfl, ?hyp32⟩) hHeld ?restp32
                case hyp32 => (intro w hSw; (try dsimp only at hSw); go_simp; try (with_reducible rfl))
                simp only [Act.put, List.setIfInBounds_toArray, List.set_cons_zero, List.set_cons_succ]
                refine' wpAnyH_take (i := 3) (v := _) (by simp only [List.getElem?_toArray, List.getElem?_cons_succ, List.getElem?_cons_zero]; rfl) (by kernel_rfl) (by kernel_rfl) (by kernel_rfl) (by intro _ _ _ h; exact h) (Or.inl ⟨by rfl, ?hyp33⟩) hHeld ?restp33
                case hyp33 => (intro w hSw; (try dsimp only at hSw); go_simp; try (with_reducible rfl))
                simp only [Act.put, List.setIfInBounds_toArray, List.set_cons_zero, List.set_cons_succ]
                refine' wpAnyH_take (i := 5) (v := _) (by simp only [List.getElem?_toArray, List.getElem?_cons_succ, List.getElem?_cons_zero]; rfl) (by kernel_rfl) (by kernel_rfl) (by kernel_rfl) (by intro _ _ _ h; exact h) (Or.inl ⟨by rfl, ?hyp35⟩) hHeld ?restp35
                case hyp35 => (intro w hSw; (try dsimp only at hSw); go_simp; try (with_reducible rfl))
                simp only [Act.put, List.setIfInBounds_toArray, List.set_cons_zero, List.set_cons_succ]
                refine' wpAnyH_take (i := 6) (v := _) (by simp only [List.getElem?_toArray, List.getElem?_cons_succ, List.getElem?_cons_zero]; rfl) (by kernel_rfl) (by kernel_rfl) (by kernel_rfl) (by intro _ _ _ h; exact h) (Or.inl ⟨by rfl, ?hyp36⟩) hHeld ?restp36
                case hyp36 => (intro w hSw; (try dsimp only at hSw); go_simp; try (with_reducible rfl))
                simp only [Act.put, List.setIfInBounds_toArray, List.set_cons_zero, List.set_cons_succ]
                refine wpAnyH_ready (rs := [4]) (by kernel_rfl) (by simp) (AllReadyH.cons (by simp only [List.getElem?_toArray, List.getElem?_cons_succ, List.getElem?_cons_zero]; rfl) (fun K hK => ?_) AllReadyH.nil)
                rw [if_pos (by rfl)]
                go_simp
                refine (sch_tick hHeld.1.both.sch).mono ?_
                rintro e wN ⟨rfl, rfl⟩
                try go_wp2_with fail
                refine hK.out _ _ ?_ (fun hHeld => ?_)
                · exact hHeld
                clear hK K
                try simp only [Act.put, List.setIfInBounds_toArray, List.set_cons_zero, List.set_cons_succ]
                refine' wpAnyH_take (i := 7) (v := _) (by simp only [List.getElem?_toArray, List.getElem?_cons_succ, List.getElem?_cons_zero]; rfl) (by kernel_rfl) (by kernel_rfl) (by kernel_rfl) (by intro _ _ _ h; exact h) (Or.inl ⟨by rfl, ?hyp37⟩) hHeld ?restp37
                case hyp37 => (intro w hSw; (try dsimp only at hSw); go_simp; try (with_reducible rfl))
                simp only [Act.put, List.setIfInBounds_toArray, List.set_cons_zero, List.set_cons_succ]
                refine' wpAnyH_take (i := 8) (v := _) (by simp only [List.getElem?_toArray, List.getElem?_cons_succ, List.getElem?_cons_zero]; rfl) (by kernel_rfl) (by kernel_rfl) (by kernel_rfl) (by intro _ _ _ h; exact h) (Or.inl ⟨by rfl, ?hyp38⟩) hHeld ?restp38
                case hyp38 => (intro w hSw; (try dsimp only at hSw); go_simp; try (with_reducible rfl))
                simp only [Act.put, List.setIfInBounds_toArray, List.set_cons_zero, List.set_cons_succ]
                refine' wpAnyH_take (i := 9) (v := _) (by simp only [List.getElem?_toArray, List.getElem?_cons_succ, List.getElem?_cons_zero]; rfl) (by kernel_rfl) (by kernel_rfl) (by kernel_rfl) (by intro _ _ _ h; exact h) (Or.inl ⟨by rfl, ?hyp39⟩) hHeld ?restp39
                case hyp39 => (intro w hSw; (try dsimp only at hSw); go_simp; try (with_reducible rfl))
                simp only [Act.put, List.setIfInBounds_toArray, List.set_cons_zero, List.set_cons_succ]
                refine' wpAnyH_take (i := 10) (v := _) (by simp only [List.getElem?_toArray, List.getElem?_cons_succ, List.getElem?_cons_zero]; rfl) (by kernel_rfl) (by kernel_rfl) (by kernel_rfl) (by intro _ _ _ h; exact h) (Or.inl ⟨by rfl, ?hyp310⟩) hHeld ?restp310
                case hyp310 => (intro w hSw; (try dsimp only at hSw); go_simp; try (with_reducible rfl))
                simp only [Act.put, List.setIfInBounds_toArray, List.set_cons_zero, List.set_cons_succ]
                refine' wpAnyH_take (i := 11) (v := _) (by simp only [List.getElem?_toArray, List.getElem?_cons_succ, List.getElem?_cons_zero]; rfl) (by kernel_rfl) (by kernel_rfl) (by kernel_rfl) (by intro _ _ _ h; exact h) (Or.inl ⟨by rfl, ?hyp311⟩) hHeld ?restp311
                case hyp311 => (intro w hSw; (try dsimp only at hSw); go_simp; try (with_reducible rfl))
                simp only [Act.put, List.setIfInBounds_toArray, List.set_cons_zero, List.set_cons_succ]
                refine' wpAnyH_take (i := 12) (v := _) (by simp only [List.getElem?_toArray, List.getElem?_cons_succ, List.getElem?_cons_zero]; rfl) (by kernel_rfl) (by kernel_rfl) (by kernel_rfl) (by intro _ _ _ h; exact h) (Or.inl ⟨by rfl, ?hyp312⟩) hHeld ?restp312
                case hyp312 => (intro w hSw; (try dsimp only at hSw); go_simp; try (with_reducible rfl))
                simp only [Act.put, List.setIfInBounds_toArray, List.set_cons_zero, List.set_cons_succ]
                refine' wpAnyH_take (i := 13) (v := _) (by simp only [List.getElem?_toArray, List.getElem?_cons_succ, List.getElem?_cons_zero]; rfl) (by kernel_rfl) (by kernel_rfl) (by kernel_rfl) (by intro _ _ _ h; exact h) (Or.inl ⟨by rfl, ?hyp313⟩) hHeld ?restp313
                case hyp313 => (intro w hSw; (try dsimp only at hSw); go_simp; try (with_reducible rfl))
                simp only [Act.put, List.setIfInBounds_toArray, List.set_cons_zero, List.set_cons_succ]
                refine' wpAnyH_take (i := 15) (v := _) (by simp only [List.getElem?_toArray, List.getElem?_cons_succ, List.getElem?_cons_zero]; rfl) (by kernel_rfl) (by kernel_rfl) (by kernel_rfl) (by intro _ _ _ h; exact h) (Or.inl ⟨by rfl, ?hyp315⟩) hHeld ?restp315
                case hyp315 => (intro w hSw; (try dsimp only at hSw); go_simp; try (with_reducible rfl))
                simp only [Act.put, List.setIfInBounds_toArray, List.set_cons_zero, List.set_cons_succ]
                refine' wpAnyH_take (i := 16) (v := _) (by simp only [List.getElem?_toArray, List.getElem?_cons_succ, List.getElem?_cons_zero]; rfl) (by kernel_rfl) (by kernel_rfl) (by kernel_rfl) (by intro _ _ _ h; exact h) (Or.inl ⟨by rfl, ?hyp316⟩) hHeld ?restp316
                case hyp316 => (intro w hSw; (try dsimp only at hSw); go_simp; try (with_reducible rfl))
                simp only [Act.put, List.setIfInBounds_toArray, List.set_cons_zero, List.set_cons_succ]
                refine' wpAnyH_take (i := 17) (v := _) (by simp only [List.getElem?_toArray, List.getElem?_cons_succ, List.getElem?_cons_zero]; rfl) (by kernel_rfl) (by kernel_rfl) (by kernel_rfl) (by intro _ _ _ h; exact h) (Or.inl ⟨by rfl, ?hyp317⟩) hHeld ?restp317
                case hyp317 => (intro w hSw; (try dsimp only at hSw); go_simp; try (with_reducible rfl))
                simp only [Act.put, List.setIfInBounds_toArray, List.set_cons_zero, List.set_cons_succ]
                refine wpAnyH_ready (rs := [14]) (by kernel_rfl) (by simp) (AllReadyH.cons (by simp only [List.getElem?_toArray, List.getElem?_cons_succ, List.getElem?_cons_zero]; rfl) (fun K hK => ?_) AllReadyH.nil)
                rw [if_pos (by rfl)]
                go_simp
                refine (sch_len hHeld.1.both.sch).mono ?_
                rintro e wN ⟨rfl, rfl⟩
                try go_wp2_with fail
                refine hK.out _ _ ?_ (fun hHeld => ?_)
                · exact hHeld
                clear hK K
                try simp only [Act.put, List.setIfInBounds_toArray, List.set_cons_zero, List.set_cons_succ]
                refine' wpAnyH_take (i := 18) (v := _) (by simp only [List.getElem?_toArray, List.getElem?_cons_succ, List.getElem?_cons_zero]; rfl) (by kernel_rfl) (by kernel_rfl) (by kernel_rfl) (by intro _ _ _ h; exact h) (Or.inl ⟨by rfl, ?hyp318⟩) hHeld ?restp318
                case hyp318 => (intro w hSw; (try dsimp only at hSw); go_simp; try (with_reducible rfl))
                simp only [Act.put, List.setIfInBounds_toArray, List.set_cons_zero, List.set_cons_succ]
                refine' wpAnyH_take (i := 19) (v := _) (by simp only [List.getElem?_toArray, List.getElem?_cons_succ, List.getElem?_cons_zero]; rfl) (by kernel_rfl) (by kernel_rfl) (by kernel_rfl) (by intro _ _ _ h; exact h) (Or.inl ⟨by rfl, ?hyp319⟩) hHeld ?restp319
                case hyp319 => (intro w hSw; (try dsimp only at hSw); go_simp; try (with_reducible rfl))
                simp only [Act.put, List.setIfInBounds_toArray, List.set_cons_zero, List.set_cons_succ]
                refine wpAnyH_done (by kernel_rfl) ?_ _
                clear hHeld e1 e2
                go_wp2_with fail
                have hw := HWR.out
                go_wp2_with fail
                go_roundg (60 - (i + 1))
                case measure => have := hk.out; have := HBD.out; omega
                case rel => exact ⟨i + 1, _, _, _, _, _, _, _, by go_num, by have := hk.out; have := HBD.out; show _ = _; omega, HP.out.nope (by repeat (first | exact Turn.refl _ _ | apply Turn.drewN | apply Turn.drew))⟩
            · obtain ⟨j, hj, rfl⟩ : ∃ j : Nat, j < Q.length ∧ (j : Int) = who := ⟨who.toNat, by omega, by omega⟩
              clear hbad
              go_wp2_with fail
              generalize wr.alloc (.cells #[.int .i64 kd, .int .i64 (j : Int), .int .i64 n] 43) = wa at *
              generalize wr.heap.size = ab at *
              refine (sch_set HA0.out.1.both.sch (by have := HBD.out; omega) (by have := HBD.out; omega) hj n).mono ?_
              rintro e w6 ⟨rfl, hsc, hkx⟩
              have hpw := HA0.out.1.both.sch.at_.row
              have hbx := hkx.cells _ _ _ HA0.out.1.box (by decide) (by decide) (by decide) (by decide) (own_ne hpw HA0.out.1.box (by decide) _ · rfl)
              have HAB := Lib.hid (hkx.cells _ _ _ HA0.out.2 (by decide) (by decide) (by decide) (by decide) (own_ne hpw HA0.out.2 (by decide) _ · rfl))
              have HB6 := Lib.hid (And.intro hsc (And.intro (HA0.out.1.both.rv.kx hkx hpw HA0.out.1.both.sep) (And.intro hbx hkx.size)))
              have hql := HA0.out.1.len
              have HJ := Lib.hid (And.intro hj hql)
              have hql2 := hql
              clear hsc hkx hpw hbx k0 k1 k2 k3 c0 c1 c2 q1 q2 hql
              obtain ⟨⟨k0, k1, k2, k3⟩, -⟩ := box4 HB6.out.2.2.1
              have a1 := blk_cell HAB.out 1
              have a2 := blk_cell HAB.out 2
              simp only [List.getElem?_toArray, List.getElem?_cons_zero, List.getElem?_cons_succ] at a1 a2
              have d1 : decide ((j : Int) < 0) = false := by simp
              have d2 : decide ((qs.length : Int) ≤ (j : Int)) = false := by simp; omega
              have d2' : decide ((j : Int) ≥ (qs.length : Int)) = false := by simp; omega
              have d2n : decide (qs.length ≤ j) = false := by simp; omega
              clear hj hql2
              go_wp2_with fail
              clear a1 a2 d1 d2 d2' d2n k0 k1 k2 k3
              have hml : M.length ≤ 1000 := by rw [← HA0.out.1.both.rel.len]; have := HBD.out; omega
              have htt : 0 ≤ u ∧ u ≤ 1000000000000 := by
                have h1 := HA0.out.1.both.t0
                have h2 := HA0.out.1.both.t1
                have := HBD.out
                omega
              refine (ref_set HB6.out.2.1 (by have h1 := HA0.out.1.both.hb; have h2 := HB6.out.2.2.2; omega) hml (by have := HJ.out.2; omega) HJ.out.1 n htt.1 htt.2 (by have := HBD.out; omega) (by have := HBD.out; omega)).mono ?_
              rintro e w7 ⟨vP', vM', rfl, hrv, hnew, ht7⟩
              have HB7 : Hid (Both w1 w7 s q pv w3.heap.size vP' vM' (Q.set j (paceOf n)) (setT T j n) (dueR (Q.set j (paceOf n)) (rdropL (j : Int) M) u d j (paceOf n)) u (d + 1)) :=
                ⟨HB6.out.1.nope ht7, hrv, HA0.out.1.both.rel.set _ j n, fun k hk hk' => by
                  have h1 := hnew k hk
                  have h2 := (World.ownsRow.lt HB6.out.1.at_.row k hk').2
                  omega, Nat.le_trans HA0.out.1.both.hb (Nat.le_trans HB6.out.2.2.2 ht7.size)⟩
              have HX7 := Lib.hid (ht7.blk HB6.out.2.2.1 fun h => h)
              have HP := Lib.hid (HA0.out.1.step HT1.out HB7.out HX7.out (by rw [List.length_set]) ⟨setT_len T j n, Nat.le_trans (dueN_le _ _) (by omega), by have := HBD.out; omega, by omega⟩)
              clear hrv hnew ht7 hml htt
              obtain ⟨Q', hQ'⟩ : ∃ Q', Q.set j (paceOf n) = Q' := ⟨_, rfl⟩
              obtain ⟨T', hT'⟩ : ∃ T', setT T j n = T' := ⟨_, rfl⟩
              rw [hQ', hT'] at HB7 HP
              obtain ⟨M', hM'⟩ : ∃ M', dueR Q' (rdropL (j : Int) M) u d j (paceOf n) = M' := ⟨_, rfl⟩
              rw [hM'] at HB7 HP
              clear hQ' hT' hM'
              obtain ⟨A5, n5, rfl, -⟩ := own_slice HB7.out.rv.p
              obtain ⟨A6, n6, rfl, -⟩ := own_slice HB7.out.rv.l
              obtain ⟨⟨k0, k1, k2, k3⟩, f0, f1, f2, f3⟩ := box4 HX7.out
              go_upto_region 22 with (fail)
              clear k0 k1 k2 k3 f0 f1 f2 f3
              refine (?_ : Code.wp _ _ _ _ (store4 w7 g (.slice A5 Q'.length n5) (.slice A6 M'.length n6) (.int .i64 u) (.int .i64 (d + 1))))
              generalize store4 w7 g (.slice A5 Q'.length n5) (.slice A6 M'.length n6) (.int .i64 u) (.int .i64 (d + 1)) = wX at HP ⊢
              have e1 : (T'.t != u) = false := by simp [HP.out.both.rel.tick]
              have e2 : ((T'.l.length : Int) != (M'.length : Int)) = false := by simp [HP.out.both.rel.len]
              refine wp_region_held_drew (S := fun W => PlayW w w1 W s q g w3.heap.size qs.length pv (i + 1) (.slice A5 Q'.length n5) (.slice A6 M'.length n6) Q' T' M' u (d + 1) ∧ W.cell? ⟨g, 1, none⟩ = some (.slice A6 M'.length n6) ∧ W.cell? ⟨g, 2, none⟩ = some (.int .i64 u) ∧ W.cell? ⟨s, 0, none⟩ = some (.pointer (some ⟨q, 0, none⟩))) (by kernel_rfl) (HP.out.nope (Turn.refl _ _).drew).all (fun hHeld => ?_)
              refine' wpAnyH_take (i := 0) (v := _) (by simp only [List.getElem?_toArray, List.getElem?_cons_succ, List.getElem?_cons_zero]; rfl) (by kernel_rfl) (by kernel_rfl) (by kernel_rfl) (by intro _ _ _ h; exact h) (Or.inl ⟨by rfl, ?hyp40⟩) hHeld ?restp40
              case hyp40 => (intro w hSw; (try dsimp only at hSw); go_simp; try (with_reducible rfl))
              simp only [Act.put, List.setIfInBounds_toArray, List.set_cons_zero, List.set_cons_succ]
              refine' wpAnyH_take (i := 1) (v := _) (by simp only [List.getElem?_toArray, List.getElem?_cons_succ, List.getElem?_cons_zero]; rfl) (by kernel_rfl) (by kernel_rfl) (by kernel_rfl) (by intro _ _ _ h; exact h) (Or.inl ⟨by rfl, ?hyp41⟩) hHeld ?restp41
              case hyp41 => (intro w hSw; (try dsimp only at hSw); go_simp; try (with_reducible rfl))
              simp only [Act.put, List.setIfInBounds_toArray, List.set_cons_zero, List.set_cons_succ]
              refine' wpAnyH_take (i := 2) (v := _) (by simp only [List.getElem?_toArray, List.getElem?_cons_succ, List.getElem?_cons_zero]; rfl) (by kernel_rfl) (by kernel_rfl) (by kernel_rfl) (by intro _ _ _ h; exact h) (Or.inl ⟨by rfl, ?hyp42⟩) hHeld ?restp42
              case hyp42 => (intro w hSw; (try dsimp only at hSw); go_simp; try (with_reducible rfl))
              simp only [Act.put, List.setIfInBounds_toArray, List.set_cons_zero, List.set_cons_succ]
              refine' wpAnyH_take (i := 3) (v := _) (by simp only [List.getElem?_toArray, List.getElem?_cons_succ, List.getElem?_cons_zero]; rfl) (by kernel_rfl) (by kernel_rfl) (by kernel_rfl) (by intro _ _ _ h; exact h) (Or.inl ⟨by rfl, ?hyp43⟩) hHeld ?restp43
              case hyp43 => (intro w hSw; (try dsimp only at hSw); go_simp; try (with_reducible rfl))
              simp only [Act.put, List.setIfInBounds_toArray, List.set_cons_zero, List.set_cons_succ]
              refine' wpAnyH_take (i := 5) (v := _) (by simp only [List.getElem?_toArray, List.getElem?_cons_succ, List.getElem?_cons_zero]; rfl) (by kernel_rfl) (by kernel_rfl) (by kernel_rfl) (by intro _ _ _ h; exact h) (Or.inl ⟨by rfl, ?hyp45⟩) hHeld ?restp45
              case hyp45 => (intro w hSw; (try dsimp only at hSw); go_simp; try (with_reducible rfl))
              simp only [Act.put, List.setIfInBounds_toArray, List.set_cons_zero, List.set_cons_succ]
              refine' wpAnyH_take (i := 6) (v := _) (by simp only [List.getElem?_toArray, List.getElem?_cons_succ, List.getElem?_cons_zero]; rfl) (by kernel_rfl) (by kernel_rfl) (by kernel_rfl) (by intro _ _ _ h; exact h) (Or.inl ⟨by rfl, ?hyp46⟩) hHeld ?restp46
              case hyp46 => (intro w hSw; (try dsimp only at hSw); go_simp; try (with_reducible rfl))
              simp only [Act.put, List.setIfInBounds_toArray, List.set_cons_zero, List.set_cons_succ]
              refine wpAnyH_ready (rs := [4]) (by kernel_rfl) (by simp) (AllReadyH.cons (by simp only [List.getElem?_toArray, List.getElem?_cons_succ, List.getElem?_cons_zero]; rfl) (fun K hK => ?_) AllReadyH.nil)
              rw [if_pos (by rfl)]
              go_simp
              refine (sch_tick hHeld.1.both.sch).mono ?_
              rintro e wN ⟨rfl, rfl⟩
              try go_wp2_with fail
              refine hK.out _ _ ?_ (fun hHeld => ?_)
              · exact hHeld
              clear hK K
              try simp only [Act.put, List.setIfInBounds_toArray, List.set_cons_zero, List.set_cons_succ]
              refine' wpAnyH_take (i := 7) (v := _) (by simp only [List.getElem?_toArray, List.getElem?_cons_succ, List.getElem?_cons_zero]; rfl) (by kernel_rfl) (by kernel_rfl) (by kernel_rfl) (by intro _ _ _ h; exact h) (Or.inl ⟨by rfl, ?hyp47⟩) hHeld ?restp47
              case hyp47 => (intro w hSw; (try dsimp only at hSw); go_simp; try (with_reducible rfl))
              simp only [Act.put, List.setIfInBounds_toArray, List.set_cons_zero, List.set_cons_succ]
              refine' wpAnyH_take (i := 8) (v := _) (by simp only [List.getElem?_toArray, List.getElem?_cons_succ, List.getElem?_cons_zero]; rfl) (by kernel_rfl) (by kernel_rfl) (by kernel_rfl) (by intro _ _ _ h; exact h) (Or.inl ⟨by rfl, ?hyp48⟩) hHeld ?restp48
              case hyp48 => (intro w hSw; (try dsimp only at hSw); go_simp; try (with_reducible rfl))
              simp only [Act.put, List.setIfInBounds_toArray, List.set_cons_zero, List.set_cons_succ]
              refine' wpAnyH_take (i := 9) (v := _) (by simp only [List.getElem?_toArray, List.getElem?_cons_succ, List.getElem?_cons_zero]; rfl) (by kernel_rfl) (by kernel_rfl) (by kernel_rfl) (by intro _ _ _ h; exact h) (Or.inl ⟨by rfl, ?hyp49⟩) hHeld ?restp49
              case hyp49 => (intro w hSw; (try dsimp only at hSw); go_simp; try (with_reducible rfl))
              simp only [Act.put, List.setIfInBounds_toArray, List.set_cons_zero, List.set_cons_succ]
              refine' wpAnyH_take (i := 10) (v := _) (by simp only [List.getElem?_toArray, List.getElem?_cons_succ, List.getElem?_cons_zero]; rfl) (by kernel_rfl) (by kernel_rfl) (by kernel_rfl) (by intro _ _ _ h; exact h) (Or.inl ⟨by rfl, ?hyp410⟩) hHeld ?restp410
              case hyp410 => (intro w hSw; (try dsimp only at hSw); go_simp; try (with_reducible rfl))
              simp only [Act.put, List.setIfInBounds_toArray, List.set_cons_zero, List.set_cons_succ]
              refine' wpAnyH_take (i := 11) (v := _) (by simp only [List.getElem?_toArray, List.getElem?_cons_succ, List.getElem?_cons_zero]; rfl) (by kernel_rfl) (by kernel_rfl) (by kernel_rfl) (by intro _ _ _ h; exact h) (Or.inl ⟨by rfl, ?hyp411⟩) hHeld ?restp411
              case hyp411 => (intro w hSw; (try dsimp only at hSw); go_simp; try (with_reducible rfl))
              simp only [Act.put, List.setIfInBounds_toArray, List.set_cons_zero, List.set_cons_succ]
              refine' wpAnyH_take (i := 12) (v := _) (by simp only [List.getElem?_toArray, List.getElem?_cons_succ, List.getElem?_cons_zero]; rfl) (by kernel_rfl) (by kernel_rfl) (by kernel_rfl) (by intro _ _ _ h; exact h) (Or.inl ⟨by rfl, ?hyp412⟩) hHeld ?restp412
              case hyp412 => (intro w hSw; (try dsimp only at hSw); go_simp; try (with_reducible rfl))
              simp only [Act.put, List.setIfInBounds_toArray, List.set_cons_zero, List.set_cons_succ]
              refine' wpAnyH_take (i := 13) (v := _) (by simp only [List.getElem?_toArray, List.getElem?_cons_succ, List.getElem?_cons_zero]; rfl) (by kernel_rfl) (by kernel_rfl) (by kernel_rfl) (by intro _ _ _ h; exact h) (Or.inl ⟨by rfl, ?hyp413⟩) hHeld ?restp413
              case hyp413 => (intro w hSw; (try dsimp only at hSw); go_simp; try (with_reducible rfl))
              simp only [Act.put, List.setIfInBounds_toArray, List.set_cons_zero, List.set_cons_succ]
              refine' wpAnyH_take (i := 15) (v := _) (by simp only [List.getElem?_toArray, List.getElem?_cons_succ, List.getElem?_cons_zero]; rfl) (by kernel_rfl) (by kernel_rfl) (by kernel_rfl) (by intro _ _ _ h; exact h) (Or.inl ⟨by rfl, ?hyp415⟩) hHeld ?restp415
              case hyp415 => (intro w hSw; (try dsimp only at hSw); go_simp; try (with_reducible rfl))
              simp only [Act.put, List.setIfInBounds_toArray, List.set_cons_zero, List.set_cons_succ]
              refine' wpAnyH_take (i := 16) (v := _) (by simp only [List.getElem?_toArray, List.getElem?_cons_succ, List.getElem?_cons_zero]; rfl) (by kernel_rfl) (by kernel_rfl) (by kernel_rfl) (by intro _ _ _ h; exact h) (Or.inl ⟨by rfl, ?hyp416⟩) hHeld ?restp416
              case hyp416 => (intro w hSw; (try dsimp only at hSw); go_simp; try (with_reducible rfl))
              simp only [Act.put, List.setIfInBounds_toArray, List.set_cons_zero, List.set_cons_succ]
              refine' wpAnyH_take (i := 17) (v := _) (by simp only [List.getElem?_toArray, List.getElem?_cons_succ, List.getElem?_cons_zero]; rfl) (by kernel_rfl) (by kernel_rfl) (by kernel_rfl) (by intro _ _ _ h; exact h) (Or.inl ⟨by rfl, ?hyp417⟩) hHeld ?restp417
              case hyp417 => (intro w hSw; (try dsimp only at hSw); go_simp; try (with_reducible rfl))
              simp only [Act.put, List.setIfInBounds_toArray, List.set_cons_zero, List.set_cons_succ]
              refine wpAnyH_ready (rs := [14]) (by kernel_rfl) (by simp) (AllReadyH.cons (by simp only [List.getElem?_toArray, List.getElem?_cons_succ, List.getElem?_cons_zero]; rfl) (fun K hK => ?_) AllReadyH.nil)
              rw [if_pos (by rfl)]
              go_simp
              refine (sch_len hHeld.1.both.sch).mono ?_
              rintro e wN ⟨rfl, rfl⟩
              try go_wp2_with fail
              refine hK.out _ _ ?_ (fun hHeld => ?_)
              · exact hHeld
              clear hK K
              try simp only [Act.put, List.setIfInBounds_toArray, List.set_cons_zero, List.set_cons_succ]
              refine' wpAnyH_take (i := 18) (v := _) (by simp only [List.getElem?_toArray, List.getElem?_cons_succ, List.getElem?_cons_zero]; rfl) (by kernel_rfl) (by kernel_rfl) (by kernel_rfl) (by intro _ _ _ h; exact h) (Or.inl ⟨by rfl, ?hyp418⟩) hHeld ?restp418
              case hyp418 => (intro w hSw; (try dsimp only at hSw); go_simp; try (with_reducible rfl))
              simp only [Act.put, List.setIfInBounds_toArray, List.set_cons_zero, List.set_cons_succ]
              refine' wpAnyH_take (i := 19) (v := _) (by simp only [List.getElem?_toArray, List.getElem?_cons_succ, List.getElem?_cons_zero]; rfl) (by kernel_rfl) (by kernel_rfl) (by kernel_rfl) (by intro _ _ _ h; exact h) (Or.inl ⟨by rfl, ?hyp419⟩) hHeld ?restp419
              case hyp419 => (intro w hSw; (try dsimp only at hSw); go_simp; try (with_reducible rfl))
              simp only [Act.put, List.setIfInBounds_toArray, List.set_cons_zero, List.set_cons_succ]
              refine wpAnyH_done (by kernel_rfl) ?_ _
              clear hHeld e1 e2
              go_wp2_with fail
              have hw := HWR.out
              go_wp2_with fail
              go_roundg (60 - (i + 1))
              case measure => have := hk.out; have := HBD.out; omega
              case rel => exact ⟨i + 1, _, _, _, _, _, _, _, by go_num, by have := hk.out; have := HBD.out; show _ = _; omega, HP.out.nope (by repeat (first | exact Turn.refl _ _ | apply Turn.drewN | apply Turn.drew))⟩
          · by_cases hk3 : kd = 3
            · have q1 : (kd == 1) = false := by simp [hk1]
              have q2 : (kd == 2) = false := by simp [hk2]
              have q3 : (kd == 3) = true := by simp [hk3]
              clear hk1 hk2 hk3
              go_wp2_with fail
              generalize wr.alloc (.cells #[.int .i64 kd, .int .i64 who, .int .i64 n] 43) = wa at *
              generalize wr.heap.size = ab at *
              refine (picks_any HA0.out.1.both (by have := HBD.out; omega) (by have := HBD.out; omega) (by have := HBD.out; omega) (by have := HBD.out; omega) n).mono ?_
              rintro e w6 ⟨vM', T', M', u', d', rfl, hB, h1, h2, h3, h4, hks⟩
              have HN := Lib.hid (And.intro hB (And.intro (hks.cells _ _ _ HA0.out.1.box (by decide) (by decide) (by decide) (by decide)) (And.intro h1 (And.intro h2 (And.intro h3 h4)))))
              have HP := Lib.hid (HA0.out.1.step HT1.out HN.out.1 HN.out.2.1 rfl (by have := HN.out.2.2; omega))
              clear hB h1 h2 h3 h4 hks k0 k1 k2 k3 c0 c1 c2 q1 q2 q3
              obtain ⟨⟨k0, k1, k2, k3⟩, f0, f1, f2, f3⟩ := box4 HN.out.2.1
              obtain ⟨A5, n5, rfl, -⟩ := own_slice HN.out.1.rv.l
              go_upto_region 22 with (fail)
              clear k0 k1 k2 k3 f0 f1 f2 f3
              refine (?_ : Code.wp _ _ _ _ (store4 w6 g (.slice A3 Q.length n3) (.slice A5 M'.length n5) (.int .i64 u') (.int .i64 d')))
              generalize store4 w6 g (.slice A3 Q.length n3) (.slice A5 M'.length n5) (.int .i64 u') (.int .i64 d') = wX at HP ⊢
              have e1 : (T'.t != u') = false := by simp [HP.out.both.rel.tick]
              have e2 : ((T'.l.length : Int) != (M'.length : Int)) = false := by simp [HP.out.both.rel.len]
              refine wp_region_held_drew (S := fun W => PlayW w w1 W s q g w3.heap.size qs.length pv (i + 1) (.slice A3 Q.length n3) (.slice A5 M'.length n5) Q T' M' u' d' ∧ W.cell? ⟨g, 1, none⟩ = some (.slice A5 M'.length n5) ∧ W.cell? ⟨g, 2, none⟩ = some (.int .i64 u') ∧ W.cell? ⟨s, 0, none⟩ = some (.pointer (some ⟨q, 0, none⟩))) (by kernel_rfl) (HP.out.nope (Turn.refl _ _).drew).all (fun hHeld => ?_)
              refine' wpAnyH_take (i := 0) (v := _) (by simp only [List.getElem?_toArray, List.getElem?_cons_succ, List.getElem?_cons_zero]; rfl) (by kernel_rfl) (by kernel_rfl) (by kernel_rfl) (by intro _ _ _ h; exact h) (Or.inl ⟨by rfl, ?hyp50⟩) hHeld ?restp50
              case hyp50 => (intro w hSw; (try dsimp only at hSw); go_simp; try (with_reducible rfl))
              simp only [Act.put, List.setIfInBounds_toArray, List.set_cons_zero, List.set_cons_succ]
              refine' wpAnyH_take (i := 1) (v := _) (by simp only [List.getElem?_toArray, List.getElem?_cons_succ, List.getElem?_cons_zero]; rfl) (by kernel_rfl) (by kernel_rfl) (by kernel_rfl) (by intro _ _ _ h; exact h) (Or.inl ⟨by rfl, ?hyp51⟩) hHeld ?restp51
              case hyp51 => (intro w hSw; (try dsimp only at hSw); go_simp; try (with_reducible rfl))
              simp only [Act.put, List.setIfInBounds_toArray, List.set_cons_zero, List.set_cons_succ]
              refine' wpAnyH_take (i := 2) (v := _) (by simp only [List.getElem?_toArray, List.getElem?_cons_succ, List.getElem?_cons_zero]; rfl) (by kernel_rfl) (by kernel_rfl) (by kernel_rfl) (by intro _ _ _ h; exact h) (Or.inl ⟨by rfl, ?hyp52⟩) hHeld ?restp52
              case hyp52 => (intro w hSw; (try dsimp only at hSw); go_simp; try (with_reducible rfl))
              simp only [Act.put, List.setIfInBounds_toArray, List.set_cons_zero, List.set_cons_succ]
              refine' wpAnyH_take (i := 3) (v := _) (by simp only [List.getElem?_toArray, List.getElem?_cons_succ, List.getElem?_cons_zero]; rfl) (by kernel_rfl) (by kernel_rfl) (by kernel_rfl) (by intro _ _ _ h; exact h) (Or.inl ⟨by rfl, ?hyp53⟩) hHeld ?restp53
              case hyp53 => (intro w hSw; (try dsimp only at hSw); go_simp; try (with_reducible rfl))
              simp only [Act.put, List.setIfInBounds_toArray, List.set_cons_zero, List.set_cons_succ]
              refine' wpAnyH_take (i := 5) (v := _) (by simp only [List.getElem?_toArray, List.getElem?_cons_succ, List.getElem?_cons_zero]; rfl) (by kernel_rfl) (by kernel_rfl) (by kernel_rfl) (by intro _ _ _ h; exact h) (Or.inl ⟨by rfl, ?hyp55⟩) hHeld ?restp55
              case hyp55 => (intro w hSw; (try dsimp only at hSw); go_simp; try (with_reducible rfl))
              simp only [Act.put, List.setIfInBounds_toArray, List.set_cons_zero, List.set_cons_succ]
              refine' wpAnyH_take (i := 6) (v := _) (by simp only [List.getElem?_toArray, List.getElem?_cons_succ, List.getElem?_cons_zero]; rfl) (by kernel_rfl) (by kernel_rfl) (by kernel_rfl) (by intro _ _ _ h; exact h) (Or.inl ⟨by rfl, ?hyp56⟩) hHeld ?restp56
              case hyp56 => (intro w hSw; (try dsimp only at hSw); go_simp; try (with_reducible rfl))
              simp only [Act.put, List.setIfInBounds_toArray, List.set_cons_zero, List.set_cons_succ]
              refine wpAnyH_ready (rs := [4]) (by kernel_rfl) (by simp) (AllReadyH.cons (by simp only [List.getElem?_toArray, List.getElem?_cons_succ, List.getElem?_cons_zero]; rfl) (fun K hK => ?_) AllReadyH.nil)
              rw [if_pos (by rfl)]
              go_simp
              refine (sch_tick hHeld.1.both.sch).mono ?_
              rintro e wN ⟨rfl, rfl⟩
              try go_wp2_with fail
              refine hK.out _ _ ?_ (fun hHeld => ?_)
              · exact hHeld
              clear hK K
              try simp only [Act.put, List.setIfInBounds_toArray, List.set_cons_zero, List.set_cons_succ]
              refine' wpAnyH_take (i := 7) (v := _) (by simp only [List.getElem?_toArray, List.getElem?_cons_succ, List.getElem?_cons_zero]; rfl) (by kernel_rfl) (by kernel_rfl) (by kernel_rfl) (by intro _ _ _ h; exact h) (Or.inl ⟨by rfl, ?hyp57⟩) hHeld ?restp57
              case hyp57 => (intro w hSw; (try dsimp only at hSw); go_simp; try (with_reducible rfl))
              simp only [Act.put, List.setIfInBounds_toArray, List.set_cons_zero, List.set_cons_succ]
              refine' wpAnyH_take (i := 8) (v := _) (by simp only [List.getElem?_toArray, List.getElem?_cons_succ, List.getElem?_cons_zero]; rfl) (by kernel_rfl) (by kernel_rfl) (by kernel_rfl) (by intro _ _ _ h; exact h) (Or.inl ⟨by rfl, ?hyp58⟩) hHeld ?restp58
              case hyp58 => (intro w hSw; (try dsimp only at hSw); go_simp; try (with_reducible rfl))
              simp only [Act.put, List.setIfInBounds_toArray, List.set_cons_zero, List.set_cons_succ]
              refine' wpAnyH_take (i := 9) (v := _) (by simp only [List.getElem?_toArray, List.getElem?_cons_succ, List.getElem?_cons_zero]; rfl) (by kernel_rfl) (by kernel_rfl) (by kernel_rfl) (by intro _ _ _ h; exact h) (Or.inl ⟨by rfl, ?hyp59⟩) hHeld ?restp59
              case hyp59 => (intro w hSw; (try dsimp only at hSw); go_simp; try (with_reducible rfl))
              simp only [Act.put, List.setIfInBounds_toArray, List.set_cons_zero, List.set_cons_succ]
              refine' wpAnyH_take (i := 10) (v := _) (by simp only [List.getElem?_toArray, List.getElem?_cons_succ, List.getElem?_cons_zero]; rfl) (by kernel_rfl) (by kernel_rfl) (by kernel_rfl) (by intro _ _ _ h; exact h) (Or.inl ⟨by rfl, ?hyp510⟩) hHeld ?restp510
              case hyp510 => (intro w hSw; (try dsimp only at hSw); go_simp; try (with_reducible rfl))
              simp only [Act.put, List.setIfInBounds_toArray, List.set_cons_zero, List.set_cons_succ]
              refine' wpAnyH_take (i := 11) (v := _) (by simp only [List.getElem?_toArray, List.getElem?_cons_succ, List.getElem?_cons_zero]; rfl) (by kernel_rfl) (by kernel_rfl) (by kernel_rfl) (by intro _ _ _ h; exact h) (Or.inl ⟨by rfl, ?hyp511⟩) hHeld ?restp511
              case hyp511 => (intro w hSw; (try dsimp only at hSw); go_simp; try (with_reducible rfl))
              simp only [Act.put, List.setIfInBounds_toArray, List.set_cons_zero, List.set_cons_succ]
              refine' wpAnyH_take (i := 12) (v := _) (by simp only [List.getElem?_toArray, List.getElem?_cons_succ, List.getElem?_cons_zero]; rfl) (by kernel_rfl) (by kernel_rfl) (by kernel_rfl) (by intro _ _ _ h; exact h) (Or.inl ⟨by rfl, ?hyp512⟩) hHeld ?restp512
              case hyp512 => (intro w hSw; (try dsimp only at hSw); go_simp; try (with_reducible rfl))
              simp only [Act.put, List.setIfInBounds_toArray, List.set_cons_zero, List.set_cons_succ]
              refine' wpAnyH_take (i := 13) (v := _) (by simp only [List.getElem?_toArray, List.getElem?_cons_succ, List.getElem?_cons_zero]; rfl) (by kernel_rfl) (by kernel_rfl) (by kernel_rfl) (by intro _ _ _ h; exact h) (Or.inl ⟨by rfl, ?hyp513⟩) hHeld ?restp513
              case hyp513 => (intro w hSw; (try dsimp only at hSw); go_simp; try (with_reducible rfl))
              simp only [Act.put, List.setIfInBounds_toArray, List.set_cons_zero, List.set_cons_succ]
              refine' wpAnyH_take (i := 15) (v := _) (by simp only [List.getElem?_toArray, List.getElem?_cons_succ, List.getElem?_cons_zero]; rfl) (by kernel_rfl) (by kernel_rfl) (by kernel_rfl) (by intro _ _ _ h; exact h) (Or.inl ⟨by rfl, ?hyp515⟩) hHeld ?restp515
              case hyp515 => (intro w hSw; (try dsimp only at hSw); go_simp; try (with_reducible rfl))
              simp only [Act.put, List.setIfInBounds_toArray, List.set_cons_zero, List.set_cons_succ]
              refine' wpAnyH_take (i := 16) (v := _) (by simp only [List.getElem?_toArray, List.getElem?_cons_succ, List.getElem?_cons_zero]; rfl) (by kernel_rfl) (by kernel_rfl) (by kernel_rfl) (by intro _ _ _ h; exact h) (Or.inl ⟨by rfl, ?hyp516⟩) hHeld ?restp516
              case hyp516 => (intro w hSw; (try dsimp only at hSw); go_simp; try (with_reducible rfl))
              simp only [Act.put, List.setIfInBounds_toArray, List.set_cons_zero, List.set_cons_succ]
              refine' wpAnyH_take (i := 17) (v := _) (by simp only [List.getElem?_toArray, List.getElem?_cons_succ, List.getElem?_cons_zero]; rfl) (by kernel_rfl) (by kernel_rfl) (by kernel_rfl) (by intro _ _ _ h; exact h) (Or.inl ⟨by rfl, ?hyp517⟩) hHeld ?restp517
              case hyp517 => (intro w hSw; (try dsimp only at hSw); go_simp; try (with_reducible rfl))
              simp only [Act.put, List.setIfInBounds_toArray, List.set_cons_zero, List.set_cons_succ]
              refine wpAnyH_ready (rs := [14]) (by kernel_rfl) (by simp) (AllReadyH.cons (by simp only [List.getElem?_toArray, List.getElem?_cons_succ, List.getElem?_cons_zero]; rfl) (fun K hK => ?_) AllReadyH.nil)
              rw [if_pos (by rfl)]
              go_simp
              refine (sch_len hHeld.1.both.sch).mono ?_
              rintro e wN ⟨rfl, rfl⟩
              try go_wp2_with fail
              refine hK.out _ _ ?_ (fun hHeld => ?_)
              · exact hHeld
              clear hK K
              try simp only [Act.put, List.setIfInBounds_toArray, List.set_cons_zero, List.set_cons_succ]
              refine' wpAnyH_take (i := 18) (v := _) (by simp only [List.getElem?_toArray, List.getElem?_cons_succ, List.getElem?_cons_zero]; rfl) (by kernel_rfl) (by kernel_rfl) (by kernel_rfl) (by intro _ _ _ h; exact h) (Or.inl ⟨by rfl, ?hyp518⟩) hHeld ?restp518
              case hyp518 => (intro w hSw; (try dsimp only at hSw); go_simp; try (with_reducible rfl))
              simp only [Act.put, List.setIfInBounds_toArray, List.set_cons_zero, List.set_cons_succ]
              refine' wpAnyH_take (i := 19) (v := _) (by simp only [List.getElem?_toArray, List.getElem?_cons_succ, List.getElem?_cons_zero]; rfl) (by kernel_rfl) (by kernel_rfl) (by kernel_rfl) (by intro _ _ _ h; exact h) (Or.inl ⟨by rfl, ?hyp519⟩) hHeld ?restp519
              case hyp519 => (intro w hSw; (try dsimp only at hSw); go_simp; try (with_reducible rfl))
              simp only [Act.put, List.setIfInBounds_toArray, List.set_cons_zero, List.set_cons_succ]
              refine wpAnyH_done (by kernel_rfl) ?_ _
              clear hHeld e1 e2
              go_wp2_with fail
              have hw := HWR.out
              go_wp2_with fail
              go_roundg (60 - (i + 1))
              case measure => have := hk.out; have := HBD.out; omega
              case rel => exact ⟨i + 1, _, _, _, _, _, _, _, by go_num, by have := hk.out; have := HBD.out; show _ = _; omega, HP.out.nope (by repeat (first | exact Turn.refl _ _ | apply Turn.drewN | apply Turn.drew))⟩
            · have q1 : (kd == 1) = false := by simp [hk1]
              have q2 : (kd == 2) = false := by simp [hk2]
              have q3 : (kd == 3) = false := by simp [hk3]
              clear hk1 hk2 hk3
              go_upto_region 22 with (fail)
              generalize wr.alloc (.cells #[.int .i64 kd, .int .i64 who, .int .i64 n] 43) = wa at *
              generalize wr.heap.size = ab at *
              have HP := Lib.hid (HA0.out.1.more (Nat.le_succ i))
              clear k0 k1 k2 k3 c0 c1 c2 q1 q2 q3
              have e1 : (T.t != u) = false := by simp [HP.out.both.rel.tick]
              have e2 : ((T.l.length : Int) != (M.length : Int)) = false := by simp [HP.out.both.rel.len]
              refine wp_region_held_drew (S := fun W => PlayW w w1 W s q g w3.heap.size qs.length pv (i + 1) (.slice A3 Q.length n3) (.slice A4 M.length n4) Q T M u d ∧ W.cell? ⟨g, 1, none⟩ = some (.slice A4 M.length n4) ∧ W.cell? ⟨g, 2, none⟩ = some (.int .i64 u) ∧ W.cell? ⟨s, 0, none⟩ = some (.pointer (some ⟨q, 0, none⟩))) (by kernel_rfl) (HP.out.nope (Turn.refl _ _).drew).all (fun hHeld => ?_)
              refine' wpAnyH_take (i := 0) (v := _) (by simp only [List.getElem?_toArray, List.getElem?_cons_succ, List.getElem?_cons_zero]; rfl) (by kernel_rfl) (by kernel_rfl) (by kernel_rfl) (by intro _ _ _ h; exact h) (Or.inl ⟨by rfl, ?hyp60⟩) hHeld ?restp60
              case hyp60 => (intro w hSw; (try dsimp only at hSw); go_simp; try (with_reducible rfl))
              simp only [Act.put, List.setIfInBounds_toArray, List.set_cons_zero, List.set_cons_succ]
              refine' wpAnyH_take (i := 1) (v := _) (by simp only [List.getElem?_toArray, List.getElem?_cons_succ, List.getElem?_cons_zero]; rfl) (by kernel_rfl) (by kernel_rfl) (by kernel_rfl) (by intro _ _ _ h; exact h) (Or.inl ⟨by rfl, ?hyp61⟩) hHeld ?restp61
              case hyp61 => (intro w hSw; (try dsimp only at hSw); go_simp; try (with_reducible rfl))
              simp only [Act.put, List.setIfInBounds_toArray, List.set_cons_zero, List.set_cons_succ]
              refine' wpAnyH_take (i := 2) (v := _) (by simp only [List.getElem?_toArray, List.getElem?_cons_succ, List.getElem?_cons_zero]; rfl) (by kernel_rfl) (by kernel_rfl) (by kernel_rfl) (by intro _ _ _ h; exact h) (Or.inl ⟨by rfl, ?hyp62⟩) hHeld ?restp62
              case hyp62 => (intro w hSw; (try dsimp only at hSw); go_simp; try (with_reducible rfl))
              simp only [Act.put, List.setIfInBounds_toArray, List.set_cons_zero, List.set_cons_succ]
              refine' wpAnyH_take (i := 3) (v := _) (by simp only [List.getElem?_toArray, List.getElem?_cons_succ, List.getElem?_cons_zero]; rfl) (by kernel_rfl) (by kernel_rfl) (by kernel_rfl) (by intro _ _ _ h; exact h) (Or.inl ⟨by rfl, ?hyp63⟩) hHeld ?restp63
              case hyp63 => (intro w hSw; (try dsimp only at hSw); go_simp; try (with_reducible rfl))
              simp only [Act.put, List.setIfInBounds_toArray, List.set_cons_zero, List.set_cons_succ]
              refine' wpAnyH_take (i := 5) (v := _) (by simp only [List.getElem?_toArray, List.getElem?_cons_succ, List.getElem?_cons_zero]; rfl) (by kernel_rfl) (by kernel_rfl) (by kernel_rfl) (by intro _ _ _ h; exact h) (Or.inl ⟨by rfl, ?hyp65⟩) hHeld ?restp65
              case hyp65 => (intro w hSw; (try dsimp only at hSw); go_simp; try (with_reducible rfl))
              simp only [Act.put, List.setIfInBounds_toArray, List.set_cons_zero, List.set_cons_succ]
              refine' wpAnyH_take (i := 6) (v := _) (by simp only [List.getElem?_toArray, List.getElem?_cons_succ, List.getElem?_cons_zero]; rfl) (by kernel_rfl) (by kernel_rfl) (by kernel_rfl) (by intro _ _ _ h; exact h) (Or.inl ⟨by rfl, ?hyp66⟩) hHeld ?restp66
              case hyp66 => (intro w hSw; (try dsimp only at hSw); go_simp; try (with_reducible rfl))
              simp only [Act.put, List.setIfInBounds_toArray, List.set_cons_zero, List.set_cons_succ]
              refine wpAnyH_ready (rs := [4]) (by kernel_rfl) (by simp) (AllReadyH.cons (by simp only [List.getElem?_toArray, List.getElem?_cons_succ, List.getElem?_cons_zero]; rfl) (fun K hK => ?_) AllReadyH.nil)
              rw [if_pos (by rfl)]
              go_simp
              refine (sch_tick hHeld.1.both.sch).mono ?_
              rintro e wN ⟨rfl, rfl⟩
              try go_wp2_with fail
              refine hK.out _ _ ?_ (fun hHeld => ?_)
              · exact hHeld
              clear hK K
              try simp only [Act.put, List.setIfInBounds_toArray, List.set_cons_zero, List.set_cons_succ]
              refine' wpAnyH_take (i := 7) (v := _) (by simp only [List.getElem?_toArray, List.getElem?_cons_succ, List.getElem?_cons_zero]; rfl) (by kernel_rfl) (by kernel_rfl) (by kernel_rfl) (by intro _ _ _ h; exact h) (Or.inl ⟨by rfl, ?hyp67⟩) hHeld ?restp67
              case hyp67 => (intro w hSw; (try dsimp only at hSw); go_simp; try (with_reducible rfl))
              simp only [Act.put, List.setIfInBounds_toArray, List.set_cons_zero, List.set_cons_succ]
              refine' wpAnyH_take (i := 8) (v := _) (by simp only [List.getElem?_toArray, List.getElem?_cons_succ, List.getElem?_cons_zero]; rfl) (by kernel_rfl) (by kernel_rfl) (by kernel_rfl) (by intro _ _ _ h; exact h) (Or.inl ⟨by rfl, ?hyp68⟩) hHeld ?restp68
              case hyp68 => (intro w hSw; (try dsimp only at hSw); go_simp; try (with_reducible rfl))
              simp only [Act.put, List.setIfInBounds_toArray, List.set_cons_zero, List.set_cons_succ]
              refine' wpAnyH_take (i := 9) (v := _) (by simp only [List.getElem?_toArray, List.getElem?_cons_succ, List.getElem?_cons_zero]; rfl) (by kernel_rfl) (by kernel_rfl) (by kernel_rfl) (by intro _ _ _ h; exact h) (Or.inl ⟨by rfl, ?hyp69⟩) hHeld ?restp69
              case hyp69 => (intro w hSw; (try dsimp only at hSw); go_simp; try (with_reducible rfl))
              simp only [Act.put, List.setIfInBounds_toArray, List.set_cons_zero, List.set_cons_succ]
              refine' wpAnyH_take (i := 10) (v := _) (by simp only [List.getElem?_toArray, List.getElem?_cons_succ, List.getElem?_cons_zero]; rfl) (by kernel_rfl) (by kernel_rfl) (by kernel_rfl) (by intro _ _ _ h; exact h) (Or.inl ⟨by rfl, ?hyp610⟩) hHeld ?restp610
              case hyp610 => (intro w hSw; (try dsimp only at hSw); go_simp; try (with_reducible rfl))
              simp only [Act.put, List.setIfInBounds_toArray, List.set_cons_zero, List.set_cons_succ]
              refine' wpAnyH_take (i := 11) (v := _) (by simp only [List.getElem?_toArray, List.getElem?_cons_succ, List.getElem?_cons_zero]; rfl) (by kernel_rfl) (by kernel_rfl) (by kernel_rfl) (by intro _ _ _ h; exact h) (Or.inl ⟨by rfl, ?hyp611⟩) hHeld ?restp611
              case hyp611 => (intro w hSw; (try dsimp only at hSw); go_simp; try (with_reducible rfl))
              simp only [Act.put, List.setIfInBounds_toArray, List.set_cons_zero, List.set_cons_succ]
              refine' wpAnyH_take (i := 12) (v := _) (by simp only [List.getElem?_toArray, List.getElem?_cons_succ, List.getElem?_cons_zero]; rfl) (by kernel_rfl) (by kernel_rfl) (by kernel_rfl) (by intro _ _ _ h; exact h) (Or.inl ⟨by rfl, ?hyp612⟩) hHeld ?restp612
              case hyp612 => (intro w hSw; (try dsimp only at hSw); go_simp; try (with_reducible rfl))
              simp only [Act.put, List.setIfInBounds_toArray, List.set_cons_zero, List.set_cons_succ]
              refine' wpAnyH_take (i := 13) (v := _) (by simp only [List.getElem?_toArray, List.getElem?_cons_succ, List.getElem?_cons_zero]; rfl) (by kernel_rfl) (by kernel_rfl) (by kernel_rfl) (by intro _ _ _ h; exact h) (Or.inl ⟨by rfl, ?hyp613⟩) hHeld ?restp613
              case hyp613 => (intro w hSw; (try dsimp only at hSw); go_simp; try (with_reducible rfl))
              simp only [Act.put, List.setIfInBounds_toArray, List.set_cons_zero, List.set_cons_succ]
              refine' wpAnyH_take (i := 15) (v := _) (by simp only [List.getElem?_toArray, List.getElem?_cons_succ, List.getElem?_cons_zero]; rfl) (by kernel_rfl) (by kernel_rfl) (by kernel_rfl) (by intro _ _ _ h; exact h) (Or.inl ⟨by rfl, ?hyp615⟩) hHeld ?restp615
              case hyp615 => (intro w hSw; (try dsimp only at hSw); go_simp; try (with_reducible rfl))
              simp only [Act.put, List.setIfInBounds_toArray, List.set_cons_zero, List.set_cons_succ]
              refine' wpAnyH_take (i := 16) (v := _) (by simp only [List.getElem?_toArray, List.getElem?_cons_succ, List.getElem?_cons_zero]; rfl) (by kernel_rfl) (by kernel_rfl) (by kernel_rfl) (by intro _ _ _ h; exact h) (Or.inl ⟨by rfl, ?hyp616⟩) hHeld ?restp616
              case hyp616 => (intro w hSw; (try dsimp only at hSw); go_simp; try (with_reducible rfl))
              simp only [Act.put, List.setIfInBounds_toArray, List.set_cons_zero, List.set_cons_succ]
              refine' wpAnyH_take (i := 17) (v := _) (by simp only [List.getElem?_toArray, List.getElem?_cons_succ, List.getElem?_cons_zero]; rfl) (by kernel_rfl) (by kernel_rfl) (by kernel_rfl) (by intro _ _ _ h; exact h) (Or.inl ⟨by rfl, ?hyp617⟩) hHeld ?restp617
              case hyp617 => (intro w hSw; (try dsimp only at hSw); go_simp; try (with_reducible rfl))
              simp only [Act.put, List.setIfInBounds_toArray, List.set_cons_zero, List.set_cons_succ]
              refine wpAnyH_ready (rs := [14]) (by kernel_rfl) (by simp) (AllReadyH.cons (by simp only [List.getElem?_toArray, List.getElem?_cons_succ, List.getElem?_cons_zero]; rfl) (fun K hK => ?_) AllReadyH.nil)
              rw [if_pos (by rfl)]
              go_simp
              refine (sch_len hHeld.1.both.sch).mono ?_
              rintro e wN ⟨rfl, rfl⟩
              try go_wp2_with fail
              refine hK.out _ _ ?_ (fun hHeld => ?_)
              · exact hHeld
              clear hK K
              try simp only [Act.put, List.setIfInBounds_toArray, List.set_cons_zero, List.set_cons_succ]
              refine' wpAnyH_take (i := 18) (v := _) (by simp only [List.getElem?_toArray, List.getElem?_cons_succ, List.getElem?_cons_zero]; rfl) (by kernel_rfl) (by kernel_rfl) (by kernel_rfl) (by intro _ _ _ h; exact h) (Or.inl ⟨by rfl, ?hyp618⟩) hHeld ?restp618
              case hyp618 => (intro w hSw; (try dsimp only at hSw); go_simp; try (with_reducible rfl))
              simp only [Act.put, List.setIfInBounds_toArray, List.set_cons_zero, List.set_cons_succ]
              refine' wpAnyH_take (i := 19) (v := _) (by simp only [List.getElem?_toArray, List.getElem?_cons_succ, List.getElem?_cons_zero]; rfl) (by kernel_rfl) (by kernel_rfl) (by kernel_rfl) (by intro _ _ _ h; exact h) (Or.inl ⟨by rfl, ?hyp619⟩) hHeld ?restp619
              case hyp619 => (intro w hSw; (try dsimp only at hSw); go_simp; try (with_reducible rfl))
              simp only [Act.put, List.setIfInBounds_toArray, List.set_cons_zero, List.set_cons_succ]
              refine wpAnyH_done (by kernel_rfl) ?_ _
              clear hHeld e1 e2
              go_wp2_with fail
              have hw := HWR.out
              go_wp2_with fail
              go_roundg (60 - (i + 1))
              case measure => have := hk.out; have := HBD.out; omega
              case rel => exact ⟨i + 1, _, _, _, _, _, _, _, by go_num, by have := hk.out; have := HBD.out; show _ = _; omega, HP.out.nope (by repeat (first | exact Turn.refl _ _ | apply Turn.drewN | apply Turn.drew))⟩
      · have b1 : decide ((i : Int) < (lenb : Int)) = true := by simp; omega
        have b1n : decide (i < lenb) = true := by simp; omega
        have b2 : decide ((i : Int) < 60) = false := by simp; omega
        have b2n : decide (i < 60) = false := by simp; omega
        clear hi hi6
        go_wp2_with fail
        go_ret
        exact ⟨rfl, hS.out.tn.nopeBelow⟩
    · have b1 : decide ((i : Int) < (lenb : Int)) = false := by simp; omega
      have b1n : decide (i < lenb) = false := by simp; omega
      clear hi
      go_wp2_with fail
      go_ret
      exact ⟨rfl, hS.out.tn.nopeBelow⟩
end Go.Proofs.Ytdojdhpfhjhmfaa
