/- BACK: the walk of StockBack. -/
import Derived.Test.YtlalbmgopbcplaaSsm
import Derived.Deep.CutBlock
set_option maxRecDepth 16000
set_option linter.unusedVariables false
set_option linter.unusedSimpArgs false
namespace Go.Proofs.Ytlalbmgopbcplaa
open Go.RowKit Go.Maps
abbrev Ent := Op4 × (Nm → Int) × List Nm
/-- What was done, the last one first: each op that takes it back, and where it takes the shelf. -/
def Chain : List Ent → (Nm → Int) → List Nm → Prop
  | [], C, K => C = (fun _ => 0) ∧ K.Perm [[]]
  | (o, C0, K0) :: r, C, K => (∀ K', K'.Perm K → doE C K' o = 0 ∧ newC C o = C0 ∧ (newK K' o).Perm K0) ∧ (o.nm.length ≤ 14 ∧ o.to.length ≤ 14) ∧ Chain r C0 K0
def opCells (l : List Ent) : List Value := l.flatMap fun x => [.int .i64 x.1.k, .string ⟨x.1.nm.toArray⟩, .string ⟨x.1.to.toArray⟩, .int .i64 x.1.N]
def wasCells (l : List Ent) : List Value := l.map fun x => .string (savedS x.2.1 x.2.2)
structure BackRel (w0 : World) (s mb : Nat) (vb vw : Value) (h : List Ent) (C : Nm → Int) (K : List Nm) (n : Nat) (wr : World) : Prop where
  sh : Sh w0 wr s mb n C K
  back : wr.ownsRow w0.heap.size 29 4 vb h.length (opCells h.reverse)
  was : wr.ownsRow w0.heap.size 9 1 vw h.length (wasCells h.reverse)
  turn : Turn Nope w0 wr
  cnt : n ≤ 400
variable {w0 w1 w2 : World} {s mb n : Nat} {vb vw : Value} {h : List Ent} {C : Nm → Int} {K : List Nm}
theorem row_map {w : World} {base e size m : Nat} {v : Value} {xs : List Value} {b : Nat} {es : Array MapEntry} {clock : Nat} (h : w.ownsRow base e size v m xs) (hb : w.heap[b]? = some (.map es clock)) : ∀ k, v.ownBlock = some k → k ≠ b := by
  intro k hk e
  subst e
  rcases h.2 with ⟨rfl, _⟩ | ⟨g, cap, cur, rfl, _, hh, _⟩
  · simp [Value.ownBlock] at hk
  · have hk : g = k := by simpa [Value.ownBlock] using hk
    subst hk
    rw [hb] at hh; cases hh
theorem Sh.mblk {w : World} (h : Sh w0 w s mb n C K) : ∃ es clock, w.heap[mb]? = some (.map es clock) := by
  obtain ⟨D, hD⟩ := h.map
  exact hD.blk
theorem BackRel.nope (r : BackRel w0 s mb vb vw h C K n w1) (ht : Turn Nope w1 w2) : BackRel w0 s mb vb vw h C K n w2 :=
  ⟨r.sh.nope ht, own_nope r.back ht, own_nope r.was ht, r.turn.trans ht, r.cnt⟩
theorem BackRel.alloc (r : BackRel w0 s mb vb vw h C K n w1) (o : Obj) : BackRel w0 s mb vb vw h C K n (w1.alloc o) := r.nope ((Turn.refl _ _).alloc o)
/-- An op is done. -/
theorem BackRel.step' {C' : Nm → Int} {K' : List Nm} (r : BackRel w0 s mb vb vw h C K n w1) (hn : n + 2 ≤ 400) (ht : Turn (At mb) w1 w2) (hs : Sh w0 w2 s mb (n + 2) C' K') : BackRel w0 s mb vb vw h C' K' (n + 2) w2 := by
  obtain ⟨es, clock, hb⟩ := r.sh.mblk
  exact ⟨hs, own_turn r.back ht fun k hk e => row_map r.back hb k hk e, own_turn r.was ht fun k hk e => row_map r.was hb k hk e, r.turn.then ht fun k hk => .inr (by rw [show k = mb from hk]; exact r.sh.lom), hn⟩
/-- Both rows grow by one. -/
theorem BackRel.push {w3 w4 : World} {vb' vw' : Value} {x : Ent} {o2 : Obj}
    (r : BackRel w0 s mb vb vw h C K n w1) (hb : w2.ownsRow w0.heap.size 29 4 vb' (h.length + 1) (opCells h.reverse ++ opCells [x])) (hg : w1.grownBy w2 vb.ownBlock)
    (hw3 : w3 = w2.alloc o2) (hw : w4.ownsRow w0.heap.size 9 1 vw' (h.length + 1) (wasCells h.reverse ++ wasCells [x])) (hg2 : w3.grownBy w4 vw.ownBlock) : BackRel w0 s mb vb' vw' (x :: h) C K n w4 := by
  subst hw3
  have t1 : Turn Nope w0 w2 := r.turn.growR hg r.back (Nat.le_refl _)
  have was2 := own_grown r.was hg (own_apart r.was r.back (by decide))
  have t2 : Turn Nope w0 w4 := (t1.alloc o2).growR hg2 (was2.alloc o2) (Nat.le_refl _)
  obtain ⟨es, clock, hbm⟩ := r.sh.mblk
  have hd1 : Sh w0 w2 s mb n C K := r.sh.turn (S := fun k => vb.ownBlock = some k) ((Turn.refl _ _).grown hg fun k hk => .inl hk) (fun e => own_ne r.back r.sh.hs (by decide) s e rfl) (fun e => row_map r.back hbm mb e rfl)
  have hd2 := hd1.nope ((Turn.refl _ _).alloc o2)
  obtain ⟨es2, clock2, hbm2⟩ := hd2.mblk
  have hd3 : Sh w0 w4 s mb n C K := hd2.turn (S := fun k => vw.ownBlock = some k) ((Turn.refl _ _).grown hg2 fun k hk => .inl hk) (fun e => own_ne (was2.alloc o2) hd2.hs (by decide) s e rfl) (fun e => row_map (was2.alloc o2) hbm2 mb e rfl)
  refine ⟨hd3, ?_, ?_, t2, r.cnt⟩
  · have := own_grown (hb.alloc o2) hg2 (own_apart (hb.alloc o2) (was2.alloc o2) (by decide))
    simpa [opCells] using this
  · simpa [wasCells] using hw
theorem Try.info29 : (Try.prog.info? 29).map (fun i => (i.zero, i.size, i.bytes)) = some (some (.agg #[.int .i64 0, .string ⟨#[]⟩, .string ⟨#[]⟩, .int .i64 0]), 4, 48) := by kernel_rfl
theorem Try.info9 : (Try.prog.info? 9).map (fun i => (i.zero, i.size, i.bytes)) = some (some (.string ⟨#[]⟩), 1, 16) := by kernel_rfl
theorem opCells_append (a b : List Ent) : opCells (a ++ b) = opCells a ++ opCells b := by simp [opCells]
theorem opCells_length (a : List Ent) : (opCells a).length = 4 * a.length := by
  induction a with
  | nil => rfl
  | cons x a ih => simp only [opCells, List.flatMap_cons, List.length_append, List.length_cons, List.length_nil] at *; omega
theorem opCells_at {h r : List Ent} {x : Ent} (hs : x :: r <:+ h) (j : Nat) (hj : j < 4) : (opCells h.reverse)[r.length * 4 + j]? = (opCells [x])[j]? := by
  obtain ⟨p, rfl⟩ := hs
  have e : (p ++ x :: r).reverse = r.reverse ++ ([x] ++ p.reverse) := by simp
  rw [e, opCells_append, opCells_append, List.getElem?_append_right (by rw [opCells_length]; simp; omega), opCells_length, List.length_reverse, show r.length * 4 + j - 4 * r.length = j by omega, List.getElem?_append_left (by rw [opCells_length]; simp; omega)]
theorem wasCells_at {h r : List Ent} {x : Ent} (hs : x :: r <:+ h) : (wasCells h.reverse)[r.length]? = some (.string (savedS x.2.1 x.2.2)) := by
  obtain ⟨p, rfl⟩ := hs
  have e : (p ++ x :: r).reverse = r.reverse ++ ([x] ++ p.reverse) := by simp
  rw [e]
  simp [wasCells]
theorem nm_arr (x : Nm) : nmOf ⟨x.toArray⟩ = x := by unfold nmOf; simp
theorem own_form {w : World} {base e size n : Nat} {A : Option Addr} {c : Nat} {xs : List Value} (h : w.ownsRow base e size (.slice A n c) n xs) (hn : 0 < n) : ∃ g, A = some ⟨g, 0, none⟩ := by
  rcases h.2 with ⟨he, h0⟩ | ⟨g, cap, cur, he, _⟩
  · omega
  · simp only [Value.slice.injEq] at he
    exact ⟨g, he.1⟩
set_option maxHeartbeats 16000000 in
theorem back_walk (a : Option Addr) (len cap : Nat) (w : World) (hin : OpsIn w a len) :
    Calls Try.prog 3 #[.slice a len cap] w fun e w' => e = .returned (.bool true) ∧ Below w.heap.size w w' := by
  have HIN := Lib.hid hin
  clear hin
  obtain ⟨i28, hi28, hz28, hs28, hb28⟩ := info_parts Try.info29
  obtain ⟨i9, hi9, hz9, hs9, hb9⟩ := info_parts Try.info9
  have I28 := Lib.hid (And.intro hi28 (And.intro hz28 (And.intro hs28 hb28)))
  have I9 := Lib.hid (And.intro hi9 (And.intro hz9 (And.intro hs9 hb9)))
  clear hi28 hz28 hs28 hb28 hi9 hz9 hs9 hb9
  go_enter Try.func3, Try.ntmps3
  go_wp2_with fail
  refine (awake_any _).mono ?_
  rintro e w1 ⟨rfl, ht⟩
  have HT1 := Lib.hid ht
  clear ht
  go_wp2_with fail
  refine (new_any w w1 HT1.out).mono ?_
  rintro e w2 ⟨s, mb, rfl, hsh, h1, h2, ht⟩
  have HT2 := Lib.hid (HT1.out.trans ht)
  have HS2 := Lib.hid hsh
  clear hsh h1 h2 ht HT1
  go_upto_region 6 with fail
  have R0 : Hid (BackRel w s mb (.slice (some ⟨w2.heap.size, 0, none⟩) 0 0) (.slice (some ⟨w2.heap.size + 1, 0, none⟩) 0 0) [] (fun _ => 0) [[]] 1 ((w2.alloc (.cells #[] 29)).alloc (.cells #[] 9))) :=
    ⟨HS2.out.nope (((Turn.refl _ _).alloc _).alloc _), World.ownsRow.alloc (World.ownsRow_lit (base := w.heap.size) (e := 29) (size := 4) w2 #[] 0 HT2.out.size (by unfold maxLen; omega) (by simp)) _,
      (by
        have h := World.ownsRow_lit (base := w.heap.size) (e := 9) (size := 1) (w2.alloc (.cells #[] 29)) #[] 0 (by have := HT2.out.size; simp; omega) (by unfold maxLen; omega) (by simp)
        rw [show (w2.alloc (.cells #[] 29)).heap.size = w2.heap.size + 1 by simp] at h
        exact h), (HT2.out.alloc _).alloc _, (by omega)⟩
  go_upto_block 0 with fail
  go_cut [4, 5, 6, 7, 8] from 15 to 48 (fun v4 v5 v6 v7 v8 wr => ∃ (h : List Ent) (C : Nm → Int) (K : List Nm) (n : Nat), Hid (h.length ≤ 50 ∧ n ≤ 110 ∧ Chain h C K) ∧ Hid (BackRel w s mb v4 v5 h C K n wr))
  case first =>
    go_wp2_with fail
    go_loopg [4, 5, 6] 50 (fun k v4 v5 v6 wr => ∃ (j : Nat) (h : List Ent) (C : Nm → Int) (KL : List Nm) (n : Nat), v6 = .int .i64 (j : Int) ∧ Hid (k + j = 50 ∧ h.length ≤ j ∧ n ≤ 1 + 2 * j ∧ Chain h C KL) ∧ Hid (BackRel w s mb v4 v5 h C KL n wr))
    case atStart => exact ⟨0, [], _, [[]], 1, rfl, ⟨rfl, Nat.le_refl _, by omega, rfl, List.Perm.refl _⟩, R0.out⟩
    case round =>
      obtain ⟨j, h, C, KL, n, rfl, hj, HR⟩ := hrel
      clear R0
      obtain ⟨ab, cb, eb, _⟩ := own_slice HR.out.back
      obtain ⟨aw, cw, ew, _⟩ := own_slice HR.out.was
      subst eb ew
      have hw : wrap64 ((j : Int) + 1) = (j : Int) + 1 := IntWalk.wrap64_in _ ⟨by have := hj.out.1; omega, by have := hj.out.1; omega⟩
      have HWR := Lib.hid hw
      clear hw
      by_cases hlt : j < len
      · have b1 : decide ((j : Int) < (len : Int)) = true := by simp; omega
        have b1n : decide (j < len) = true := by simp; omega
        by_cases h50 : j < 50
        · have b2 : decide ((j : Int) < 50) = true := by simp; omega
          have b2n : decide (j < 50) = true := by simp; omega
          obtain ⟨ad, k, S, U, N, rfl, hS, c0, c1, c2, c3⟩ := HIN.out.2 j hlt
          have i0 : (0 : Int) ≤ (j : Int) := by omega
          have i1 : (j : Int) < (len : Int) := by omega
          have CELL : Hid (∀ W, Turn Nope w W → W.cell? (ad.add (j * 4)) = some (.int .i64 k) ∧ W.cell? ⟨(ad.add (j * 4)).block, (ad.add (j * 4)).off + 1, none⟩ = some (.string S) ∧ W.cell? ⟨(ad.add (j * 4)).block, (ad.add (j * 4)).off + 2, none⟩ = some (.string U) ∧ W.cell? ⟨(ad.add (j * 4)).block, (ad.add (j * 4)).off + 3, none⟩ = some (.int .i64 N)) := fun W R => ⟨cell_later R.nopeBelow c0, cell_later R.nopeBelow c1, cell_later R.nopeBelow c2, cell_later R.nopeBelow c3⟩
          have HJ := Lib.hid h50
          clear c0 c1 c2 c3 hS hlt h50
          go_wp2_with fail
          refine (save_any HR.out.sh).mono ?_
          rintro e w3 ⟨rfl, ht⟩
          have HR3 := Lib.hid (HR.out.nope ht)
          obtain ⟨was, hwas⟩ : ∃ was, savedS C KL = was := ⟨_, rfl⟩
          rw [hwas]
          have HWAS := Lib.hid hwas
          clear ht HR hwas
          obtain ⟨c0, c1, c2, c3⟩ := CELL.out _ HR3.out.turn
          go_wp2_with fail
          refine (few_any k S U N _).mono ?_
          rintro e w4 ⟨rfl, ht⟩
          have HR4 := Lib.hid (HR3.out.nope ht)
          clear ht HR3 c0 c1 c2 c3
          obtain ⟨S', hS'⟩ : ∃ S', cutP S 14 = S' := ⟨_, rfl⟩
          have HSS : Hid (S'.size ≤ 14) := by rw [← hS']; exact cutP_size S 14
          rw [hS']
          obtain ⟨U', hU'⟩ : ∃ U', cutP U 14 = U' := ⟨_, rfl⟩
          have HUU : Hid (U'.size ≤ 14) := by rw [← hU']; exact cutP_size U 14
          rw [hU']
          clear hS' hU'
          go_wp2_with fail
          have HR5 := Lib.hid (HR4.out.alloc (.cells #[.int .i64 k, .string S', .string U', .int .i64 N] 29))
          have HB5 := Lib.hid (blk_new w4 (.cells #[.int .i64 k, .string S', .string U', .int .i64 N] 29))
          have HMB : Hid (w4.heap.size ≠ mb) := by obtain ⟨es, clock, hb⟩ := HR4.out.sh.mblk; have := blk_lt hb; exact (by omega : w4.heap.size ≠ mb)
          generalize w4.alloc (.cells #[.int .i64 k, .string S', .string U', .int .i64 N] 29) = w5 at *
          generalize w4.heap.size = B at *
          refine (do_any HR5.out.sh (by have := HR5.out.cnt; omega) k N S' U' (by have := HSS.out; unfold maxLen; omega) (by have := HUU.out; unfold maxLen; omega)).mono ?_
          rintro e w6 ⟨rfl, hs, ht⟩
          have HO : Hid (Sh w w6 s mb (n + 2) (doC C KL ⟨k, nmOf S', nmOf U', N⟩) (doK C KL ⟨k, nmOf S', nmOf U', N⟩)) := hs
          have HR6 := Lib.hid (HR5.out.step' (by have := hj.out; have := HJ.out; omega) ht hs)
          have HB6 : Hid (w6.heap[B]? = some (.cells #[.int .i64 k, .string S', .string U', .int .i64 N] 29 (0, 0))) := ht.blk HB5.out (fun e => HMB.out e)
          obtain ⟨E, hE⟩ : ∃ E, doE C KL ⟨k, nmOf S', nmOf U', N⟩ = E := ⟨_, rfl⟩
          rw [hE]
          have HE := Lib.hid hE
          clear hs ht hE HO
          by_cases he : E = 0
          · subst he
            have HD : Hid (doC C KL ⟨k, nmOf S', nmOf U', N⟩ = newC C ⟨k, nmOf S', nmOf U', N⟩) := by show doC _ _ _ = _; unfold doC; rw [if_pos HE.out]
            have HINV := Lib.hid (inv_back HR5.out.sh.good HE.out)
            have HK : Hid (k = 1 ∨ k = 2 ∨ k = 3) := by have h1 := (chk_ok (doE_ok HE.out).1).1; have h2 := (chk_ok (doE_ok HE.out).1).2.1; have h1 : 1 ≤ k := h1; have h2 : k ≤ 3 := h2; exact (by omega : k = 1 ∨ k = 2 ∨ k = 3)
            have HDK : Hid (doK C KL ⟨k, nmOf S', nmOf U', N⟩ = newK KL ⟨k, nmOf S', nmOf U', N⟩) := by show doK _ _ _ = _; unfold doK; rw [if_pos HE.out]
            have HG0 := Lib.hid HR5.out.sh.good
            rw [HD.out, HDK.out] at HR6
            have k0 := blk_cell HB6.out 0
            have k1 := blk_cell HB6.out 1
            have k2 := blk_cell HB6.out 2
            have k3 := blk_cell HB6.out 3
            simp only [List.getElem?_toArray, List.getElem?_cons_zero, List.getElem?_cons_succ] at k0 k1 k2 k3
            clear HR4 HR5 HB5
            go_wp2_with fail
            refine (inv_any k HK.out S' U' N _).mono ?_
            rintro e w7 ⟨rfl, ht⟩
            obtain ⟨o2, ho2⟩ : ∃ o2, inv ⟨k, nmOf S', nmOf U', N⟩ = o2 := ⟨_, rfl⟩
            have HO2L : Hid (o2.nm.length ≤ 14 ∧ o2.to.length ≤ 14) := by
              rw [← ho2]
              have h1 := HSS.out
              have h2 := HUU.out
              unfold inv
              split
              · exact ⟨by show (nmOf S').length ≤ 14; rw [nm_len]; exact h1, by show ([] : Nm).length ≤ 14; simp⟩
              · split
                · exact ⟨by show (nmOf S').length ≤ 14; rw [nm_len]; exact h1, by show ([] : Nm).length ≤ 14; simp⟩
                · exact ⟨by show (nmOf U').length ≤ 14; rw [nm_len]; exact h2, by show (nmOf S').length ≤ 14; rw [nm_len]; exact h1⟩
            rw [ho2] at HINV ⊢
            clear ho2
            unfold aB
            have HR7 := Lib.hid ((HR6.out.nope ht).alloc (.cells #[.int .i64 o2.k, .string ⟨o2.nm.toArray⟩, .string ⟨o2.to.toArray⟩, .int .i64 o2.N] 29))
            have HR7' := Lib.hid (HR6.out.nope ht)
            obtain ⟨x, hx⟩ : ∃ x : Ent, (o2, C, KL) = x := ⟨_, rfl⟩
            have HX : Hid (opCells [x] = [.int .i64 o2.k, .string ⟨o2.nm.toArray⟩, .string ⟨o2.to.toArray⟩, .int .i64 o2.N] ∧ wasCells [x] = [.string was]) := by
              rw [← hx, ← HWAS.out]
              exact ⟨rfl, rfl⟩
            have HCH : Hid (Chain (x :: h) (newC C ⟨k, nmOf S', nmOf U', N⟩) (newK KL ⟨k, nmOf S', nmOf U', N⟩)) := by
              rw [← hx]
              exact ⟨fun K' hK' => HINV.out K' hK', HO2L.out, hj.out.2.2.2⟩
            clear ht HR6 k0 k1 k2 k3 HB6 hx HINV HG0
            have hl := hj.out.2.1
            have hl2 := HJ.out
            go_upto_region 13 with (first | (at_builtin; refine wpList_append_lies _ rfl (.tmp 36) (.tmp 39) 22 rfl w.heap.size 29 i28 _ 4 48 Try.underlying22 I28.out.1 I28.out.2.1 I28.out.2.2.1 I28.out.2.2.2 rfl (by omega) (.slice ab h.length cb) h.length (opCells h.reverse) rfl HR7.out.back ⟨w7.heap.size, 0, none⟩ 1 1 (opCells [x]) rfl (by rw [HX.out.1]; rfl) (by rw [HX.out.1]; exact news_new w7 _ 29) (by rw [HX.out.1]; intro u hu; simp at hu; rcases hu with rfl | rfl | rfl | rfl <;> rfl) (by omega) (by unfold maxLen; omega) (by omega) (by have := HR7.out.turn.size; simpa using this) (w7.heap.size + 1) (by simp) ?_; intro g1 cap1 w8 hown1 hgr1 hat1 hlt1; have HO1 := Lib.hid hown1; have HG1 := Lib.hid hgr1; clear hown1 hgr1 hat1 hlt1))
            have HW8 := Lib.hid (own_grown HR7.out.was HG1.out (own_apart HR7.out.was HR7.out.back (by decide)))
            have hz8 : w.heap.size ≤ w8.heap.size := by
              have h1 := HG1.out.size
              have h2 := HR7.out.turn.size
              omega
            go_wp2_with (first | (at_builtin; refine wpList_append_lies _ rfl (.tmp 41) (.tmp 43) 26 rfl w.heap.size 9 i9 _ 1 16 Try.underlying26 I9.out.1 I9.out.2.1 I9.out.2.2.1 I9.out.2.2.2 rfl (by omega) (.slice aw h.length cw) h.length (wasCells h.reverse) rfl (HW8.out.alloc _) ⟨w8.heap.size, 0, none⟩ 1 1 (wasCells [x]) rfl (by rw [HX.out.2]; rfl) (by rw [HX.out.2]; exact news_new w8 _ 9) (by rw [HX.out.2]; intro u hu; simp at hu; subst hu; rfl) (by omega) (by unfold maxLen; omega) (by omega) (by simp; omega) (w8.heap.size + 1) (by simp) ?_; intro g2 cap2 w9 hown2 hgr2 hat2 hlt2; have HO2 := Lib.hid hown2; have HG2 := Lib.hid hgr2; clear hown2 hgr2 hat2 hlt2 hz8))
            have hw := HWR.out
            go_wp2_with fail
            go_roundg (50 - (j + 1))
            case measure => have := hj.out.1; omega
            case rel =>
              refine ⟨j + 1, x :: h, newC C ⟨k, nmOf S', nmOf U', N⟩, newK KL ⟨k, nmOf S', nmOf U', N⟩, n + 2, by go_num, ⟨by have := hj.out.1; omega, by have := hj.out.2.1; simp; omega, by have := hj.out.2.2.1; omega, HCH.out⟩, ?_⟩
              exact BackRel.push HR7.out HO1.out HG1.out rfl HO2.out HG2.out
          · have hb : (E == 0) = false := by simpa using he
            have HD : Hid (doC C KL ⟨k, nmOf S', nmOf U', N⟩ = C ∧ doK C KL ⟨k, nmOf S', nmOf U', N⟩ = KL) := by
              have h1 : doE C KL ⟨k, nmOf S', nmOf U', N⟩ ≠ 0 := by rw [HE.out]; exact he
              exact ⟨by unfold doC; rw [if_neg h1], by unfold doK; rw [if_neg h1]⟩
            rw [HD.out.1, HD.out.2] at HR6
            clear he HR4 HR5 HB5 HB6
            have s1 : (was.toList != was.toList) = false := by simp
            go_wp2_with fail
            refine (save_any HR6.out.sh).mono ?_
            rintro e w7 ⟨rfl, ht⟩
            rw [HWAS.out]
            have HR7 := Lib.hid (HR6.out.nope ht)
            clear ht
            go_wp2_with fail
            have hw := HWR.out
            go_wp2_with fail
            go_roundg (50 - (j + 1))
            case measure => have := hj.out.1; have := HJ.out; omega
            case rel => exact ⟨j + 1, h, C, KL, n + 2, by go_num, ⟨by have := hj.out.1; have := HJ.out; omega, by have := hj.out.2.1; omega, by have := hj.out.2.2.1; omega, hj.out.2.2.2⟩, HR7.out⟩
        · have b2 : decide ((j : Int) < 50) = false := by simp; omega
          have b2n : decide (j < 50) = false := by simp; omega
          have HF : Hid (h.length ≤ 50 ∧ n ≤ 110) := by have := hj.out; exact ⟨by omega, by omega⟩
          clear hlt h50
          go_wp2_with fail
          go_meet
          exact ⟨h, C, KL, n, ⟨HF.out.1, HF.out.2, hj.out.2.2.2⟩, HR.out⟩
      · have b1 : decide ((j : Int) < (len : Int)) = false := by simp; omega
        have b1n : decide (j < len) = false := by simp; omega
        have HF : Hid (h.length ≤ 50 ∧ n ≤ 110) := by have := hj.out; exact ⟨by omega, by omega⟩
        clear hlt
        go_wp2_with fail
        go_meet
        exact ⟨h, C, KL, n, ⟨HF.out.1, HF.out.2, hj.out.2.2.2⟩, HR.out⟩
  case rest =>
    obtain ⟨h, C, KL, n, hh, HR⟩ := hcut
    clear R0
    obtain ⟨ab, cb, eb, _⟩ := own_slice HR.out.back
    obtain ⟨aw, cw, ew, _⟩ := own_slice HR.out.was
    subst eb ew
    have hl50 := hh.out.1
    have hw0 : wrap64 ((h.length : Int) - 1) = (h.length : Int) - 1 := IntWalk.wrap64_in _ ⟨by omega, by omega⟩
    go_wp2_with fail
    clear hw0
    go_loopg [9] h.length (fun k v9 wr => ∃ (r : List Ent) (C : Nm → Int) (KL : List Nm) (n : Nat) (z : Int), v9 = .int .i64 z ∧ Hid (z = (k : Int) - 1 ∧ r.length = k ∧ r <:+ h ∧ (∃ Kc, Chain r C Kc ∧ KL.Perm Kc) ∧ n + 2 * r.length ≤ 350) ∧ Hid (BackRel w s mb (.slice ab h.length cb) (.slice aw h.length cw) h C KL n wr))
    case atStart => exact ⟨h, C, KL, n, (h.length : Int) - 1, by go_num, ⟨rfl, rfl, List.suffix_refl h, ⟨KL, hh.out.2.2, List.Perm.refl _⟩, by have := hh.out.2.1; omega⟩, HR.out⟩
    case round =>
      obtain ⟨r, C, KL, n, z, rfl, hz, HR2⟩ := hrel
      clear HR
      cases r with
      | nil =>
        obtain rfl : z = -1 := by have h1 := hz.out.1; have h2 := hz.out.2.1; simp at h2; omega
        have HSL : Hid ((accs KL).length = 0) := by
          obtain ⟨Kc, hc, hp⟩ := hz.out.2.2.2.1
          have h1 := accs_length HR2.out.sh.good.house
          have h2 := (hp.trans hc.2).length_eq
          have h2 : KL.length = 1 := h2
          exact (by omega : (accs KL).length = 0)
        go_wp2_with fail
        refine (names_any HR2.out.sh).mono ?_
        rintro e w9 ⟨v, rfl, hrow, ht⟩
        obtain ⟨A9, c9, g9, cap9, rfl, -⟩ := hrow
        rw [HSL.out]
        have HT9 := Lib.hid (HR2.out.turn.trans ht)
        clear ht
        go_wp2_with fail
        go_ret
        exact ⟨rfl, HT9.out.nopeBelow⟩
      | cons x r =>
        obtain ⟨o, C0, K0⟩ := x
        obtain rfl : z = (r.length : Int) := by have h1 := hz.out.1; have h2 := hz.out.2.1; simp only [List.length_cons] at h2; omega
        have hlen2 : r.length < h.length := by have := hz.out.2.2.1.length_le; simp only [List.length_cons] at this; omega
        obtain ⟨gb, eb⟩ := own_form HR2.out.back (by omega)
        obtain ⟨gw, ew⟩ := own_form HR2.out.was (by omega)
        subst eb ew
        obtain ⟨Kc, ⟨q1, q2, q4⟩, hp⟩ := hz.out.2.2.2.1
        have HNM := Lib.hid q2
        have HQ : Hid (doE C KL o = 0 ∧ doC C KL o = C0 ∧ (doK C KL o).Perm K0) := by
          have h1 := q1 KL hp
          refine ⟨h1.1, ?_, ?_⟩
          · unfold doC
            rw [if_pos h1.1]
            exact h1.2.1
          · unfold doK
            rw [if_pos h1.1]
            exact h1.2.2
        have HQ4 := Lib.hid q4
        have SAT : Hid (∀ W, World.ownsRow W w.heap.size 29 4 (.slice (some ⟨gb, 0, none⟩) h.length cb) h.length (opCells h.reverse) → World.ownsRow W w.heap.size 9 1 (.slice (some ⟨gw, 0, none⟩) h.length cw) h.length (wasCells h.reverse) → W.cell? ⟨gb, r.length * 4, none⟩ = some (.int .i64 o.k) ∧ W.cell? ⟨gb, r.length * 4 + 1, none⟩ = some (.string ⟨o.nm.toArray⟩) ∧ W.cell? ⟨gb, r.length * 4 + 2, none⟩ = some (.string ⟨o.to.toArray⟩) ∧ W.cell? ⟨gb, r.length * 4 + 3, none⟩ = some (.int .i64 o.N) ∧ W.cell? ⟨gw, r.length, none⟩ = some (.string (savedS C0 K0))) := fun W R1 R2 =>
          ⟨own_elem R1 (r.length * 4) ((opCells_at hz.out.2.2.1 0 (by omega)).trans rfl), own_elem R1 (r.length * 4 + 1) ((opCells_at hz.out.2.2.1 1 (by omega)).trans rfl), own_elem R1 (r.length * 4 + 2) ((opCells_at hz.out.2.2.1 2 (by omega)).trans rfl), own_elem R1 (r.length * 4 + 3) ((opCells_at hz.out.2.2.1 3 (by omega)).trans rfl), own_elem R2 r.length (wasCells_at hz.out.2.2.1)⟩
        have i1 : (0 : Int) ≤ (r.length : Int) := by omega
        have i2 : (r.length : Int) < (h.length : Int) := by omega
        have hge : decide ((r.length : Int) ≥ 0) = true := by simp
        have hs9 : ((savedS C0 K0).toList != (savedS C0 K0).toList) = false := by simp
        have hw1 : wrap64 ((r.length : Int) - 1) = (r.length : Int) - 1 := IntWalk.wrap64_in _ ⟨by omega, by omega⟩
        have HW1 := Lib.hid hw1
        clear q1 q2 q4 hp hlen2 hw1
        go_upto_region 19 with (fail)
        refine wp_region_held_drew (S := fun W => W.cell? ⟨gb, r.length * 4, none⟩ = some (.int .i64 o.k) ∧ W.cell? ⟨gb, r.length * 4 + 1, none⟩ = some (.string ⟨o.nm.toArray⟩) ∧ W.cell? ⟨gb, r.length * 4 + 2, none⟩ = some (.string ⟨o.to.toArray⟩) ∧ W.cell? ⟨gb, r.length * 4 + 3, none⟩ = some (.int .i64 o.N) ∧ W.cell? ⟨gw, r.length, none⟩ = some (.string (savedS C0 K0))) (by kernel_rfl) (SAT.out _ (own_nope HR2.out.back (Turn.refl _ _).drew) (own_nope HR2.out.was (Turn.refl _ _).drew)) (fun hHeld => ?_)
        refine' wpAnyH_take (i := 0) (v := _) (by simp only [List.getElem?_toArray, List.getElem?_cons_succ, List.getElem?_cons_zero]; rfl) (by kernel_rfl) (by kernel_rfl) (by kernel_rfl) (by intro _ _ _ h; exact h) (Or.inl ⟨by rfl, ?hyb190⟩) hHeld ?restb190
        case hyb190 => (intro w hSw; (try dsimp only at hSw); go_simp; try (with_reducible rfl))
        simp only [Act.put, List.setIfInBounds_toArray, List.set_cons_zero, List.set_cons_succ]
        refine' wpAnyH_take (i := 1) (v := _) (by simp only [List.getElem?_toArray, List.getElem?_cons_succ, List.getElem?_cons_zero]; rfl) (by kernel_rfl) (by kernel_rfl) (by kernel_rfl) (by intro _ _ _ h; exact h) (Or.inl ⟨by rfl, ?hyb191⟩) hHeld ?restb191
        case hyb191 => (intro w hSw; (try dsimp only at hSw); go_simp; try (with_reducible rfl))
        simp only [Act.put, List.setIfInBounds_toArray, List.set_cons_zero, List.set_cons_succ]
        refine' wpAnyH_take (i := 2) (v := _) (by simp only [List.getElem?_toArray, List.getElem?_cons_succ, List.getElem?_cons_zero]; rfl) (by kernel_rfl) (by kernel_rfl) (by kernel_rfl) (by intro _ _ _ h; exact h) (Or.inl ⟨by rfl, ?hyb192⟩) hHeld ?restb192
        case hyb192 => (intro w hSw; (try dsimp only at hSw); go_simp; try (with_reducible rfl))
        simp only [Act.put, List.setIfInBounds_toArray, List.set_cons_zero, List.set_cons_succ]
        refine' wpAnyH_take (i := 3) (v := _) (by simp only [List.getElem?_toArray, List.getElem?_cons_succ, List.getElem?_cons_zero]; rfl) (by kernel_rfl) (by kernel_rfl) (by kernel_rfl) (by intro _ _ _ h; exact h) (Or.inl ⟨by rfl, ?hyb193⟩) hHeld ?restb193
        case hyb193 => (intro w hSw; (try dsimp only at hSw); go_simp; try (with_reducible rfl))
        simp only [Act.put, List.setIfInBounds_toArray, List.set_cons_zero, List.set_cons_succ]
        refine' wpAnyH_take (i := 4) (v := _) (by simp only [List.getElem?_toArray, List.getElem?_cons_succ, List.getElem?_cons_zero]; rfl) (by kernel_rfl) (by kernel_rfl) (by kernel_rfl) (by intro _ _ _ h; exact h) (Or.inl ⟨by rfl, ?hyb194⟩) hHeld ?restb194
        case hyb194 => (intro w hSw; (try dsimp only at hSw); go_simp; try (with_reducible rfl))
        simp only [Act.put, List.setIfInBounds_toArray, List.set_cons_zero, List.set_cons_succ]
        refine wpAnyH_ready (rs := [5]) (by kernel_rfl) (by simp) (AllReadyH.cons (by simp only [List.getElem?_toArray, List.getElem?_cons_succ, List.getElem?_cons_zero]; rfl) (fun KK hKK => ?_) AllReadyH.nil)
        go_simp
        refine (do_any (HR2.out.nope (Turn.refl _ _).drew).sh (by have := HR2.out.cnt; omega) o.k o.N ⟨o.nm.toArray⟩ ⟨o.to.toArray⟩ (by show o.nm.toArray.size ≤ maxLen; have := HNM.out; simp; unfold maxLen; omega) (by show o.to.toArray.size ≤ maxLen; have := HNM.out; simp; unfold maxLen; omega)).mono ?_
        rintro e w4 ⟨rfl, hs, ht⟩
        rw [nm_arr, nm_arr] at hs ⊢
        have HR4 : Hid (BackRel w s mb (.slice (some ⟨gb, 0, none⟩) h.length cb) (.slice (some ⟨gw, 0, none⟩) h.length cw) h C0 (doK C KL o) (n + 2) w4) := by
          have h1 := (HR2.out.nope (Turn.refl _ _).drew).step' (by have := hz.out.2.2.2.2; simp only [List.length_cons] at this; omega) ht hs
          rw [show doC C KL o = C0 from HQ.out.2.1] at h1
          exact h1
        rw [show doE C KL o = 0 from HQ.out.1]
        clear hs ht
        try go_wp2_with fail
        refine hKK.out _ _ ?_ (fun hHeld => ?_)
        · exact SAT.out _ HR4.out.back HR4.out.was
        clear hKK KK
        try simp only [Act.put, List.setIfInBounds_toArray, List.set_cons_zero, List.set_cons_succ]
        refine' wpAnyH_take (i := 6) (v := _) (by simp only [List.getElem?_toArray, List.getElem?_cons_succ, List.getElem?_cons_zero]; rfl) (by kernel_rfl) (by kernel_rfl) (by kernel_rfl) (by intro _ _ _ h; exact h) (Or.inl ⟨by rfl, ?hyb196⟩) hHeld ?restb196
        case hyb196 => (intro w hSw; (try dsimp only at hSw); go_simp; try (with_reducible rfl))
        simp only [Act.put, List.setIfInBounds_toArray, List.set_cons_zero, List.set_cons_succ]
        refine' wpAnyH_take (i := 7) (v := _) (by simp only [List.getElem?_toArray, List.getElem?_cons_succ, List.getElem?_cons_zero]; rfl) (by kernel_rfl) (by kernel_rfl) (by kernel_rfl) (by intro _ _ _ h; exact h) (Or.inl ⟨by rfl, ?hyb197⟩) hHeld ?restb197
        case hyb197 => (intro w hSw; (try dsimp only at hSw); go_simp; try (with_reducible rfl))
        simp only [Act.put, List.setIfInBounds_toArray, List.set_cons_zero, List.set_cons_succ]
        refine' wpAnyH_take (i := 8) (v := _) (by simp only [List.getElem?_toArray, List.getElem?_cons_succ, List.getElem?_cons_zero]; rfl) (by kernel_rfl) (by kernel_rfl) (by kernel_rfl) (by intro _ _ _ h; exact h) (Or.inl ⟨by rfl, ?hyb198⟩) hHeld ?restb198
        case hyb198 => (intro w hSw; (try dsimp only at hSw); go_simp; try (with_reducible rfl))
        simp only [Act.put, List.setIfInBounds_toArray, List.set_cons_zero, List.set_cons_succ]
        refine' wpAnyH_take (i := 10) (v := _) (by simp only [List.getElem?_toArray, List.getElem?_cons_succ, List.getElem?_cons_zero]; rfl) (by kernel_rfl) (by kernel_rfl) (by kernel_rfl) (by intro _ _ _ h; exact h) (Or.inl ⟨by rfl, ?hyb1910⟩) hHeld ?restb1910
        case hyb1910 => (intro w hSw; (try dsimp only at hSw); go_simp; try (with_reducible rfl))
        simp only [Act.put, List.setIfInBounds_toArray, List.set_cons_zero, List.set_cons_succ]
        refine' wpAnyH_take (i := 11) (v := _) (by simp only [List.getElem?_toArray, List.getElem?_cons_succ, List.getElem?_cons_zero]; rfl) (by kernel_rfl) (by kernel_rfl) (by kernel_rfl) (by intro _ _ _ h; exact h) (Or.inl ⟨by rfl, ?hyb1911⟩) hHeld ?restb1911
        case hyb1911 => (intro w hSw; (try dsimp only at hSw); go_simp; try (with_reducible rfl))
        simp only [Act.put, List.setIfInBounds_toArray, List.set_cons_zero, List.set_cons_succ]
        refine' wpAnyH_take (i := 12) (v := _) (by simp only [List.getElem?_toArray, List.getElem?_cons_succ, List.getElem?_cons_zero]; rfl) (by kernel_rfl) (by kernel_rfl) (by kernel_rfl) (by intro _ _ _ h; exact h) (Or.inl ⟨by rfl, ?hyb1912⟩) hHeld ?restb1912
        case hyb1912 => (intro w hSw; (try dsimp only at hSw); go_simp; try (with_reducible rfl))
        simp only [Act.put, List.setIfInBounds_toArray, List.set_cons_zero, List.set_cons_succ]
        refine' wpAnyH_take (i := 13) (v := _) (by simp only [List.getElem?_toArray, List.getElem?_cons_succ, List.getElem?_cons_zero]; rfl) (by kernel_rfl) (by kernel_rfl) (by kernel_rfl) (by intro _ _ _ h; exact h) (Or.inl ⟨by rfl, ?hyb1913⟩) hHeld ?restb1913
        case hyb1913 => (intro w hSw; (try dsimp only at hSw); go_simp; try (with_reducible rfl))
        simp only [Act.put, List.setIfInBounds_toArray, List.set_cons_zero, List.set_cons_succ]
        refine wpAnyH_ready (rs := [9]) (by kernel_rfl) (by simp) (AllReadyH.cons (by simp only [List.getElem?_toArray, List.getElem?_cons_succ, List.getElem?_cons_zero]; rfl) (fun KK hKK => ?_) AllReadyH.nil)
        rw [if_pos (by rfl)]
        go_simp
        refine (save_any HR4.out.sh).mono ?_
        rintro e w5 ⟨rfl, ht⟩
        have HR5 := Lib.hid (HR4.out.nope ht)
        rw [saved_same HQ.out.2.2]
        clear ht
        try go_wp2_with fail
        refine hKK.out _ _ ?_ (fun hHeld => ?_)
        · exact SAT.out _ HR5.out.back HR5.out.was
        clear hKK KK
        try simp only [Act.put, List.setIfInBounds_toArray, List.set_cons_zero, List.set_cons_succ]
        refine' wpAnyH_take (i := 14) (v := _) (by simp only [List.getElem?_toArray, List.getElem?_cons_succ, List.getElem?_cons_zero]; rfl) (by kernel_rfl) (by kernel_rfl) (by kernel_rfl) (by intro _ _ _ h; exact h) (Or.inl ⟨by rfl, ?hyb1914⟩) hHeld ?restb1914
        case hyb1914 => (intro w hSw; (try dsimp only at hSw); go_simp; try (with_reducible rfl))
        simp only [Act.put, List.setIfInBounds_toArray, List.set_cons_zero, List.set_cons_succ]
        refine' wpAnyH_take (i := 15) (v := _) (by simp only [List.getElem?_toArray, List.getElem?_cons_succ, List.getElem?_cons_zero]; rfl) (by kernel_rfl) (by kernel_rfl) (by kernel_rfl) (by intro _ _ _ h; exact h) (Or.inl ⟨by rfl, ?hyb1915⟩) hHeld ?restb1915
        case hyb1915 => (intro w hSw; (try dsimp only at hSw); go_simp; try (with_reducible rfl))
        simp only [Act.put, List.setIfInBounds_toArray, List.set_cons_zero, List.set_cons_succ]
        refine wpAnyH_done (by kernel_rfl) ?_ _
        clear hHeld hs9
        have hw1 := HW1.out
        go_wp2_with fail
        go_roundg r.length
        case measure => have := hz.out.2.1; simp only [List.length_cons] at this; omega
        case rel => exact ⟨r, C0, doK C KL o, n + 2, (r.length : Int) - 1, by go_num, ⟨rfl, rfl, (List.suffix_cons _ _).trans hz.out.2.2.1, ⟨K0, HQ4.out, HQ.out.2.2⟩, by have := hz.out.2.2.2.2; simp only [List.length_cons] at this; omega⟩, HR5.out⟩
end Go.Proofs.Ytlalbmgopbcplaa
