/- Put into a tower, what wasn't there: the walk. -/
import Derived.Test.YtdkojpfhmohaeaaDoorTSPut
import Derived.BigRegion
set_option linter.unusedVariables false
namespace Go.Proofs.YtdkojpfhmohaeaaDoor.TS
open Go.RowKit Go.Proofs.TowerPlain
variable {w w' w0 : World} {F G : Nat → Prop} {L : List N} {f : Nat → Nat → Option Nat} {x y hd : N} {ns : List N} {l : Nat}
theorem cs {w : World} {p q : Addr} {x : Value} (h : ∃ v, w.cell? q = some v) : ∃ v', (w.setCell p x).cell? q = some v' := h.elim fun _ h => cell?_setCell_some h
theorem outA_at (gg : Nat → Nat) {k : Nat} (hk : k < 10) : (outA gg 0)[k]? = some (.pointer (some ⟨gg k, 0, none⟩)) := by simp [outA, hk]
theorem ptrV_form (q : Option Nat) : ∃ po, ptrV q = .pointer po := by cases q <;> exact ⟨_, rfl⟩
/-- A new node beside the others. -/
theorem MemOf.more {A B : List N} (h : MemOf w (A ++ B) f) (hb : w.heap.size ≤ x.b) (hr : w.heap.size ≤ x.r) {w3 : World} (ht : Turn Nope w w3) (hx : NodeAt w3 (fun _ _ => none) x) :
    MemOf w3 (A ++ x :: B) (fun b h => if b = x.b then none else f b h) := by
  have hlt : ∀ y ∈ A ++ B, y.b < w.heap.size ∧ y.r < w.heap.size := fun y hy => (h.at_ y hy).lt
  refine ⟨fun y hy => ?_, ?_, ?_⟩
  · by_cases hyx : y ∈ A ++ B
    · have h1 := (h.at_ y hyx).keep ht (fun h => h) (fun h => h)
      have h2 := hlt y hyx
      refine ⟨h1.nd, ?_⟩
      have e : rowOf (fun b h => if b = x.b then none else f b h) y.b y.h = rowOf f y.b y.h := by
        unfold rowOf
        congr 1
        apply List.map_congr_left
        intro i _
        show ptrV (if y.b = x.b then none else f y.b i) = _
        rw [if_neg (by omega)]
      rw [e]; exact h1.row
    · have : y = x := by
        rcases List.mem_append.1 hy with h1 | h1
        · exact absurd (List.mem_append_left _ h1) hyx
        · rcases List.mem_cons.1 h1 with h2 | h2
          · exact h2
          · exact absurd (List.mem_append_right _ h2) hyx
      subst this
      refine ⟨hx.nd, ?_⟩
      have e : rowOf (fun b h => if b = y.b then none else f b h) y.b y.h = rowOf (fun _ _ => none) y.b y.h := by
        unfold rowOf
        congr 1
        apply List.map_congr_left
        intro i _
        show ptrV (if y.b = y.b then none else f y.b i) = _
        rw [if_pos rfl]
      rw [e]; exact hx.row
  · have h1 := h.nb
    unfold Bs at *
    rw [List.map_append] at *
    rw [List.map_cons, List.nodup_append] at *
    rw [List.nodup_cons]
    refine ⟨h1.1, ⟨fun e => ?_, h1.2.1⟩, fun a ha b hb2 => ?_⟩
    · obtain ⟨y, hy, e2⟩ := List.mem_map.1 e
      have := (hlt y (List.mem_append_right _ hy)).1; omega
    · rcases List.mem_cons.1 hb2 with rfl | hb2
      · obtain ⟨y, hy, e2⟩ := List.mem_map.1 ha
        have := (hlt y (List.mem_append_left _ hy)).1; omega
      · exact h1.2.2 a ha b hb2
  · have h1 := h.nr
    unfold Rs at *
    rw [List.map_append] at *
    rw [List.map_cons, List.nodup_append] at *
    rw [List.nodup_cons]
    refine ⟨h1.1, ⟨fun e => ?_, h1.2.1⟩, fun a ha b hb2 => ?_⟩
    · obtain ⟨y, hy, e2⟩ := List.mem_map.1 e
      have := (hlt y (List.mem_append_right _ hy)).2; omega
    · rcases List.mem_cons.1 hb2 with rfl | hb2
      · obtain ⟨y, hy, e2⟩ := List.mem_map.1 ha
        have := (hlt y (List.mem_append_left _ hy)).2; omega
      · exact h1.2.2 a ha b hb2
theorem links_more {L : List N} {xb : Nat} (h : Links f L) (hx : xb ∉ Bs L) : Links (fun b h => if b = xb then none else f b h) L := by
  intro pre y post he k hk
  show (if y.b = xb then none else f y.b k) = _
  rw [if_neg (fun e => hx (by rw [← e, he]; simp [Bs]))]
  exact h pre y post he k hk
set_option maxRecDepth 8000 in
set_option maxHeartbeats 8000000 in
theorem put_new {A0 B : List N} {v : Int} (h : TwAt w F l hd ns f) (hp : Parted hd ns A0 B v) (hA : ns.takeWhile (below v) = A0) (hB : ∀ y ∈ B, v < y.vs) (hmax : v ≤ 9223372036854775807) (hT : TabAt w) (hn : ns.length ≤ 1000000) (u : ByteArray) :
    Calls Tryd.prog 23 #[.pointer (some ⟨l, 0, none⟩), .int .i64 v, .string u] w fun e w' => e = .returned (.bool false) ∧ ∃ F', Tw w' F' l (tOf A0 ++ (v, u) :: tOf B) ∧ Sub w F F' ∧ Turn F w w' := by
  have HC := Lib.hid (before_any h v)
  rw [hA] at HC
  have HP := Lib.hid hp
  have HT := Lib.hid h
  have HB := Lib.hid hB
  have HTAB := Lib.hid hT
  have HN := Lib.hid hn
  clear h hp hA hB hT hn
  go_enter Tryd.func23, Tryd.ntmps23
  go_wp2_with fail
  refine HC.out.mono ?_
  rintro e w1 ⟨g, gg, rfl, hg, hgs, ht, hb⟩
  obtain ⟨z, zp, hs⟩ := HT.out.start HP.out hg ht hb
  have HS := Lib.hid hs
  have c0 := hs.c0
  have z2 := hs.z2
  have zr := hs.zr
  have zh := hs.zh
  have HT1 := Lib.hid ht
  have HGS := Lib.hid hgs
  clear hs hg hgs ht hb HC
  have HTAB1 := Lib.hid (HTAB.out.turn HT1.out)
  have hH1 := hgt_pos v
  have hH2 := hgt_le v
  have hmk := fun W => mkN W (hgt v) (hgt_le v)
  obtain ⟨H, hH⟩ : ∃ H, hgt v = H := ⟨_, rfl⟩
  rw [hH] at hH1 hH2 hmk
  have HH := Lib.hid hH
  clear hH
  have hz0 : ∀ (W : World), True := fun _ => trivial
  cases hBc : B with
  | nil =>
    rw [hBc] at zr
    simp only [List.head?_nil, Option.map_none] at zr
    unfold ptrV at zr
    have HBC := Lib.hid hBc
    clear hBc
    go_upto_region 7 with (go_at_call 10; refine (height_any v hmax _ HTAB1.out).mono ?_; rw [HH.out]; rintro e w' ⟨rfl, rfl⟩)
    have HT3 : Hid (Turn Nope w1 ((w1.alloc (.cells (rowOf (fun _ _ => none) 0 H) 68)).alloc (.cells #[.int .i64 v, .string u, .slice (some ⟨w1.heap.size, 0, none⟩) H H] 71))) := ((Turn.refl _ _).alloc _).alloc _
    have HX3 : Hid (NodeAt ((w1.alloc (.cells (rowOf (fun _ _ => none) 0 H) 68)).alloc (.cells #[.int .i64 v, .string u, .slice (some ⟨w1.heap.size, 0, none⟩) H H] 71)) (fun _ _ => none) ⟨w1.heap.size + 1, w1.heap.size, v, u, H⟩) := ⟨by have := blk_new (w1.alloc (.cells (rowOf (fun _ _ => none) 0 H) 68)) (.cells #[.int .i64 v, .string u, .slice (some ⟨w1.heap.size, 0, none⟩) H H] 71); simpa using this, blk_alloc (blk_new w1 (.cells (rowOf (fun _ _ => none) 0 H) 68)) _⟩
    generalize (w1.alloc (.cells (rowOf (fun _ _ => none) 0 H) 68)).alloc (.cells #[.int .i64 v, .string u, .slice (some ⟨w1.heap.size, 0, none⟩) H H] 71) = w3 at *
    have h0 := HT.out.nope HT1.out
    have hmem := h0.mem
    rw [show hd :: ns = (hd :: A0) ++ B by rw [HP.out.eq]; rfl] at hmem
    have HM3 := Lib.hid (hmem.more (x := ⟨w1.heap.size + 1, w1.heap.size, v, u, H⟩) (Nat.le_succ _) (Nat.le_refl _) HT3.out HX3.out)
    have HL3 := Lib.hid (HT3.out.blk h0.hl fun h => h)
    have HG3 := Lib.hid (HT3.out.blk HS.out.out fun h => h)
    have HW3 : Hid (Turn F w w3) := (HT1.out.trans HT3.out).ofNope
    have HWB : Hid (w.heap.size ≤ w1.heap.size) := HT1.out.size
    have HLT : Hid (∀ y ∈ hd :: ns, y.b < w.heap.size ∧ y.r < w.heap.size) := fun y hy => (HT.out.mem.at_ y hy).lt
    have HFT : Hid (∀ y ∈ hd :: A0, F y.r) := fun y hy => (HT.out.foot _).2 (.inr ⟨y, by rw [HP.out.eq]; rcases List.mem_cons.1 hy with h | h <;> simp [h], .inr rfl⟩)
    have HFL : Hid (F l) := (HT.out.foot _).2 (.inl rfl)
    obtain ⟨x, hx⟩ : ∃ x : N, x = ⟨w1.heap.size + 1, w1.heap.size, v, u, H⟩ := ⟨_, rfl⟩
    have exb : x.b = w1.heap.size + 1 := by rw [hx]
    have exr : x.r = w1.heap.size := by rw [hx]
    have HXE := Lib.hid hx
    rw [← hx] at HM3
    have HEB := Lib.hid exb
    have HER := Lib.hid exr
    rw [← exb, ← exr]
    clear hx exb exr c0 z2 zr zh h0 hmem HX3
    generalize hf0 : (fun b h => if b = x.b then none else f b h : Nat → Nat → Option Nat) = f0 at *
    have HF0 := Lib.hid hf0
    clear hf0
    have x3 := blk_cell (HM3.out.at_ x (by simp)).nd 2
    simp only [List.getElem?_toArray, List.getElem?_cons_zero, List.getElem?_cons_succ] at x3
    rw [show x.h = H by rw [HXE.out], HER.out, ← HER.out] at x3
    go_wp2_with fail
    clear x3
    go_loopg [10, 48] H (fun kk v10 v48 wr => ∃ (k : Nat), v48 = .int .i64 (k : Int) ∧ Hid (kk + k = H ∧ MemOf wr ((hd :: A0) ++ x :: B) (fput f0 gg x.b k) ∧ wr.heap[l]? = some (.cells #[.pointer (some ⟨hd.b, 0, none⟩), .int .i64 (ns.length : Int)] 73 (0, 0)) ∧ wr.heap[g]? = some (.cells (outA gg 0) 68 (0, 0)) ∧ Turn F w wr))
    case atStart => exact ⟨0, rfl, rfl, by rw [fput_zero]; exact HM3.out, HL3.out, HG3.out, HW3.out⟩
    case round =>
      obtain ⟨k, rfl, hi⟩ := hrel
      clear HM3 HL3 HG3 HW3
      have hik := hi.out.1
      by_cases hlt : k < H
      · have b1 : decide ((k : Int) < (H : Int)) = true := by simp; omega
        have b1n : decide (k < H) = true := by simp; omega
        have hw : wrap64 ((k : Int) + 1) = (k : Int) + 1 := IntWalk.wrap64_in _ ⟨by omega, by omega⟩
        have k0 : (0 : Int) ≤ (k : Int) := by omega
        have k1 : (k : Int) < (H : Int) := by omega
        have k2 : (k : Int) < 10 := by omega
        obtain ⟨pre, y, suf, e1, e2, e3, e4⟩ := HS.out.bef k (by omega)
        have hyA : y ∈ hd :: A0 := by rw [e1]; simp
        have hyM : y ∈ (hd :: A0) ++ x :: B := List.mem_append_left _ hyA
        have hxM : x ∈ (hd :: A0) ++ x :: B := by simp
        have hY := hi.out.2.1.at_ y hyM
        have hX := hi.out.2.1.at_ x hxM
        have hxh : x.h = H := by rw [HXE.out]
        have x2 := blk_cell hX.nd 2
        have y2 := blk_cell hY.nd 2
        have xk := blk_cell hX.row k
        have yk := blk_cell hY.row k
        have xf := blk_frozen hX.row k
        have yf := blk_frozen hY.row k
        have gk0 := blk_cell hi.out.2.2.2.1 k
        simp only [List.getElem?_toArray, List.getElem?_cons_zero, List.getElem?_cons_succ] at x2 y2
        rw [rowOf_at _ _ (by rw [hxh]; exact hlt)] at xk
        rw [rowOf_at _ _ e3, show fput f0 gg x.b k y.b k = f0 y.b k by unfold fput; rw [if_neg (Nat.lt_irrefl k)]] at yk
        rw [outA_at gg (by omega), ← e2] at gk0
        rw [hxh] at x2
        have hne : y.r ≠ x.r := by have := (HLT.out y (by rw [HP.out.eq]; rcases List.mem_cons.1 hyA with h | h <;> simp [h])).2; have := HWB.out; have := HER.out; omega
        have hne' : x.r ≠ y.r := fun e => hne e.symm
        have hbx : gg k ≠ x.b := by rw [← e2]; have := (HLT.out y (by rw [HP.out.eq]; rcases List.mem_cons.1 hyA with h | h <;> simp [h])).1; have := HWB.out; have := HEB.out; omega
        have yh : (k : Int) < (y.h : Int) := by omega
        generalize hq : f0 y.b k = q at yk
        have HQ := Lib.hid (And.intro hq e2)
        have HY := Lib.hid (And.intro hyM (And.intro hxM (And.intro hbx (And.intro hyA hne))))
        obtain ⟨yk2, hyk2⟩ : ∃ u, (wr.setCell ⟨x.r, k, none⟩ (ptrV q)).cell? ⟨y.r, k, none⟩ = some u := cs ⟨_, yk⟩
        obtain ⟨xk2, hxk2⟩ : ∃ u, (wr.setCell ⟨y.r, k, none⟩ (.pointer (some ⟨x.b, 0, none⟩))).cell? ⟨x.r, k, none⟩ = some u := cs ⟨_, xk⟩
        obtain ⟨po, hpq⟩ := ptrV_form q
        rw [hpq] at yk hyk2
        have HPQ := Lib.hid hpq
        clear hpq hq e1 e2 e3 e4 hyA hyM hxM hY hX hxh hbx
        go_wp2_with fail
        go_region
        have m2 : MemOf ((wr.setCell ⟨x.r, k, none⟩ (.pointer po)).setCell ⟨y.r, k, none⟩ (.pointer (some ⟨x.b, 0, none⟩))) ((hd :: A0) ++ x :: B) (fput f0 gg x.b (k + 1)) := by
          have m1 := (hi.out.2.1.set_row HY.out.2.1 (k := k) q).set_row HY.out.1 (k := k) (some x.b)
          rw [HQ.out.2, show q = f0 (gg k) k by rw [← HQ.out.2]; exact HQ.out.1.symm, fput_step _ _ _ _ HY.out.2.2.1] at m1
          rw [← HPQ.out, show q = f0 (gg k) k by rw [← HQ.out.2]; exact HQ.out.1.symm]
          exact m1
        have t2 : Turn (fun b => b = x.r ∨ b = y.r) wr ((wr.setCell ⟨x.r, k, none⟩ (.pointer po)).setCell ⟨y.r, k, none⟩ (.pointer (some ⟨x.b, 0, none⟩))) := Turn.setCell (p := ⟨y.r, k, none⟩) (Turn.setCell (p := ⟨x.r, k, none⟩) (Turn.refl _ _) (.inl (.inl rfl)) _) (.inl (.inr rfl)) _
        have t3 : Turn F w ((wr.setCell ⟨x.r, k, none⟩ (.pointer po)).setCell ⟨y.r, k, none⟩ (.pointer (some ⟨x.b, 0, none⟩))) := Turn.setCell (p := ⟨y.r, k, none⟩) (Turn.setCell (p := ⟨x.r, k, none⟩) hi.out.2.2.2.2 (.inr (by show w.heap.size ≤ x.r; have := HWB.out; have := HER.out; omega)) _) (.inl (HFT.out y HY.out.2.2.2.1)) _
        have lne : ¬ (l = x.r ∨ l = y.r) := by
          rintro (e | e)
          · have h1 := blk_lt HT.out.hl; have := HWB.out; have := HER.out; omega
          · exact HT.out.fl ⟨y, by rw [HP.out.eq]; rcases List.mem_cons.1 HY.out.2.2.2.1 with h | h <;> simp [h], .inr e⟩
        have gne : ¬ (g = x.r ∨ g = y.r) := by
          rintro (e | e)
          · have h1 := blk_lt HS.out.out; have := HER.out; omega
          · have h1 := (HLT.out y (by rw [HP.out.eq]; rcases List.mem_cons.1 HY.out.2.2.2.1 with h | h <;> simp [h])).2; have := HGS.out; omega
        have HF2 := Lib.hid (And.intro m2 (And.intro (t2.blk hi.out.2.2.1 lne) (And.intro (t2.blk hi.out.2.2.2.1 gne) t3)))
        clear m2 t2 t3 lne gne x2 y2 xk yk xf yf gk0 hyk2 hxk2
        generalize (wr.setCell ⟨x.r, k, none⟩ (.pointer po)).setCell ⟨y.r, k, none⟩ (.pointer (some ⟨x.b, 0, none⟩)) = wz at *
        go_wp2_with fail
        go_roundg (H - (k + 1))
        case measure => omega
        case rel =>
          have hd : ∀ {W : World}, Turn Nope wz W → MemOf W ((hd :: A0) ++ x :: B) (fput f0 gg x.b (k + 1)) ∧ W.heap[l]? = some (.cells #[.pointer (some ⟨hd.b, 0, none⟩), .int .i64 (ns.length : Int)] 73 (0, 0)) ∧ W.heap[g]? = some (.cells (outA gg 0) 68 (0, 0)) ∧ Turn F w W := fun hW =>
            ⟨HF2.out.1.keep hW (fun _ _ h => h), hW.blk HF2.out.2.1 (fun h => h), hW.blk HF2.out.2.2.1 (fun h => h), HF2.out.2.2.2.trans hW.ofNope⟩
          exact ⟨k + 1, by go_num, by omega, hd (by repeat (first | exact Turn.refl _ _ | apply Turn.drewN | apply Turn.drew))⟩
      · obtain rfl : k = H := by omega
        have b1 : decide ((k : Int) < (k : Int)) = false := by simp
        have hln := HN.out
        have l1 := blk_cell hi.out.2.2.1 1
        have lf := blk_frozen hi.out.2.2.1 1
        simp only [List.getElem?_toArray, List.getElem?_cons_zero, List.getElem?_cons_succ] at l1
        have hw : wrap64 ((ns.length : Int) + 1) = (ns.length : Int) + 1 := IntWalk.wrap64_in _ ⟨by omega, by omega⟩
        clear hlt hik hln
        go_wp2_with fail
        go_ret
        have hxL : x.b ∉ Bs ((hd :: A0) ++ B) := fun e => by
          obtain ⟨y, hy, e2⟩ := List.mem_map.1 e
          have := (HLT.out y (by rw [HP.out.eq]; exact hy)).1
          have := HWB.out; have := HEB.out; omega
        have hlk : Links (fput f0 gg x.b x.h) ((hd :: A0) ++ x :: B) := by
          refine links_put (f := f0) ?_ ?_ (fun h hh => HS.out.bef h ?_) hxL
          · rw [← HF0.out]
            exact links_more (by have := HT.out.links; rw [HP.out.eq] at this; exact this) hxL
          · have := HT.out.mem.nb; rw [HP.out.eq] at this; exact this
          · have e : x.h = k := by rw [HXE.out]
            omega
        have exh : x.h = k := by rw [HXE.out]
        rw [exh] at hlk
        have tt : Turn (At l) wr (wr.setCell ⟨l, 1, none⟩ (.int .i64 ((ns.length : Int) + 1))) := (Turn.refl _ _).set_at _
        have hfl : ¬ Foot (hd :: (A0 ++ x :: B)) l := by
          rintro ⟨y, hy, h⟩
          by_cases hyx : y = x
          · subst hyx
            have h1 := blk_lt HT.out.hl; have := HWB.out; have := HER.out; have := HEB.out
            rcases h with h | h <;> omega
          · refine HT.out.fl ⟨y, ?_, h⟩
            rw [HP.out.eq]
            rcases List.mem_cons.1 hy with h1 | h1
            · simp [h1]
            · rcases List.mem_append.1 h1 with h1 | h1
              · simp [h1]
              · rcases List.mem_cons.1 h1 with h1 | h1
                · exact absurd h1 hyx
                · simp [h1]
        have hmm : MemOf (wr.setCell ⟨l, 1, none⟩ (.int .i64 ((ns.length : Int) + 1))) ((hd :: A0) ++ x :: B) (fput f0 gg x.b k) := hi.out.2.1.keep tt (fun b hb e => hfl (by rw [← show b = l from e]; exact hb))
        refine ⟨rfl, fun b => b = l ∨ Foot (hd :: (A0 ++ x :: B)) b, ⟨hd, A0 ++ x :: B, _, ⟨?_, hmm, hlk, HT.out.hh, ?_, ?_, fun b => Iff.rfl, hfl⟩, ?_⟩, ?_, ?_⟩
        · have := blk_set hi.out.2.2.1 1 (.int .i64 ((ns.length : Int) + 1))
          rw [show ((A0 ++ x :: B).length : Int) = (ns.length : Int) + 1 by rw [HP.out.eq]; simp; omega]
          exact this
        · intro y hy
          rcases List.mem_append.1 hy with h1 | h1
          · exact HT.out.hs y (by rw [HP.out.eq]; simp [h1])
          · rcases List.mem_cons.1 h1 with rfl | h1
            · rw [exh, ← HH.out, HXE.out]
            · exact HT.out.hs y (by rw [HP.out.eq]; simp [h1])
        · have hs := HT.out.sorted
          rw [HP.out.eq] at hs
          rw [List.pairwise_append] at hs ⊢
          have ev : x.vs = v := by rw [HXE.out]
          refine ⟨hs.1, List.pairwise_cons.2 ⟨fun b hb => by rw [ev]; exact HB.out b hb, hs.2.1⟩, fun a ha b hb => ?_⟩
          rcases List.mem_cons.1 hb with rfl | hb
          · rw [ev]; exact HP.out.lo a ha
          · exact hs.2.2 a ha b hb
        · rw [tOf_app, HXE.out]; rfl
        · intro b hb
          rcases hb with rfl | ⟨y, hy, h⟩
          · exact .inl HFL.out
          · by_cases hyx : y = x
            · subst hyx
              have := HWB.out; have := HER.out; have := HEB.out
              rcases h with h | h <;> exact .inr (by omega)
            · refine .inl ((HT.out.foot b).2 (.inr ⟨y, ?_, h⟩))
              rw [HP.out.eq]
              rcases List.mem_cons.1 hy with h1 | h1
              · simp [h1]
              · rcases List.mem_append.1 h1 with h1 | h1
                · simp [h1]
                · rcases List.mem_cons.1 h1 with h1 | h1
                  · exact absurd h1 hyx
                  · simp [h1]
        · exact Turn.setCell (p := ⟨l, 1, none⟩) hi.out.2.2.2.2 (.inl HFL.out) _
  | cons c s =>
    rw [hBc] at zr
    simp only [List.head?_cons, Option.map_some] at zr
    unfold ptrV at zr
    have hcL : c ∈ hd :: ns := by rw [HP.out.eq, hBc]; simp
    have x0 := blk_cell ((HT.out.mem.at_ c hcL).keep HT1.out (fun h => h) (fun h => h)).nd 0
    simp only [List.getElem?_toArray, List.getElem?_cons_zero] at x0
    have q0 : (c.vs == v) = false := by have := HB.out c (by rw [hBc]; simp); simp; omega
    have HBC := Lib.hid hBc
    clear hBc hcL
    go_upto_region 7 with (go_at_call 10; refine (height_any v hmax _ HTAB1.out).mono ?_; rw [HH.out]; rintro e w' ⟨rfl, rfl⟩)
    have HT3 : Hid (Turn Nope w1 ((w1.alloc (.cells (rowOf (fun _ _ => none) 0 H) 68)).alloc (.cells #[.int .i64 v, .string u, .slice (some ⟨w1.heap.size, 0, none⟩) H H] 71))) := ((Turn.refl _ _).alloc _).alloc _
    have HX3 : Hid (NodeAt ((w1.alloc (.cells (rowOf (fun _ _ => none) 0 H) 68)).alloc (.cells #[.int .i64 v, .string u, .slice (some ⟨w1.heap.size, 0, none⟩) H H] 71)) (fun _ _ => none) ⟨w1.heap.size + 1, w1.heap.size, v, u, H⟩) := ⟨by have := blk_new (w1.alloc (.cells (rowOf (fun _ _ => none) 0 H) 68)) (.cells #[.int .i64 v, .string u, .slice (some ⟨w1.heap.size, 0, none⟩) H H] 71); simpa using this, blk_alloc (blk_new w1 (.cells (rowOf (fun _ _ => none) 0 H) 68)) _⟩
    generalize (w1.alloc (.cells (rowOf (fun _ _ => none) 0 H) 68)).alloc (.cells #[.int .i64 v, .string u, .slice (some ⟨w1.heap.size, 0, none⟩) H H] 71) = w3 at *
    have h0 := HT.out.nope HT1.out
    have hmem := h0.mem
    rw [show hd :: ns = (hd :: A0) ++ B by rw [HP.out.eq]; rfl] at hmem
    have HM3 := Lib.hid (hmem.more (x := ⟨w1.heap.size + 1, w1.heap.size, v, u, H⟩) (Nat.le_succ _) (Nat.le_refl _) HT3.out HX3.out)
    have HL3 := Lib.hid (HT3.out.blk h0.hl fun h => h)
    have HG3 := Lib.hid (HT3.out.blk HS.out.out fun h => h)
    have HW3 : Hid (Turn F w w3) := (HT1.out.trans HT3.out).ofNope
    have HWB : Hid (w.heap.size ≤ w1.heap.size) := HT1.out.size
    have HLT : Hid (∀ y ∈ hd :: ns, y.b < w.heap.size ∧ y.r < w.heap.size) := fun y hy => (HT.out.mem.at_ y hy).lt
    have HFT : Hid (∀ y ∈ hd :: A0, F y.r) := fun y hy => (HT.out.foot _).2 (.inr ⟨y, by rw [HP.out.eq]; rcases List.mem_cons.1 hy with h | h <;> simp [h], .inr rfl⟩)
    have HFL : Hid (F l) := (HT.out.foot _).2 (.inl rfl)
    obtain ⟨x, hx⟩ : ∃ x : N, x = ⟨w1.heap.size + 1, w1.heap.size, v, u, H⟩ := ⟨_, rfl⟩
    have exb : x.b = w1.heap.size + 1 := by rw [hx]
    have exr : x.r = w1.heap.size := by rw [hx]
    have HXE := Lib.hid hx
    rw [← hx] at HM3
    have HEB := Lib.hid exb
    have HER := Lib.hid exr
    rw [← exb, ← exr]
    clear hx exb exr c0 z2 zr zh h0 hmem HX3
    generalize hf0 : (fun b h => if b = x.b then none else f b h : Nat → Nat → Option Nat) = f0 at *
    have HF0 := Lib.hid hf0
    clear hf0
    have x3 := blk_cell (HM3.out.at_ x (by simp)).nd 2
    simp only [List.getElem?_toArray, List.getElem?_cons_zero, List.getElem?_cons_succ] at x3
    rw [show x.h = H by rw [HXE.out], HER.out, ← HER.out] at x3
    go_wp2_with fail
    clear x3
    go_loopg [10, 48] H (fun kk v10 v48 wr => ∃ (k : Nat), v48 = .int .i64 (k : Int) ∧ Hid (kk + k = H ∧ MemOf wr ((hd :: A0) ++ x :: B) (fput f0 gg x.b k) ∧ wr.heap[l]? = some (.cells #[.pointer (some ⟨hd.b, 0, none⟩), .int .i64 (ns.length : Int)] 73 (0, 0)) ∧ wr.heap[g]? = some (.cells (outA gg 0) 68 (0, 0)) ∧ Turn F w wr))
    case atStart => exact ⟨0, rfl, rfl, by rw [fput_zero]; exact HM3.out, HL3.out, HG3.out, HW3.out⟩
    case round =>
      obtain ⟨k, rfl, hi⟩ := hrel
      clear HM3 HL3 HG3 HW3
      have hik := hi.out.1
      by_cases hlt : k < H
      · have b1 : decide ((k : Int) < (H : Int)) = true := by simp; omega
        have b1n : decide (k < H) = true := by simp; omega
        have hw : wrap64 ((k : Int) + 1) = (k : Int) + 1 := IntWalk.wrap64_in _ ⟨by omega, by omega⟩
        have k0 : (0 : Int) ≤ (k : Int) := by omega
        have k1 : (k : Int) < (H : Int) := by omega
        have k2 : (k : Int) < 10 := by omega
        obtain ⟨pre, y, suf, e1, e2, e3, e4⟩ := HS.out.bef k (by omega)
        have hyA : y ∈ hd :: A0 := by rw [e1]; simp
        have hyM : y ∈ (hd :: A0) ++ x :: B := List.mem_append_left _ hyA
        have hxM : x ∈ (hd :: A0) ++ x :: B := by simp
        have hY := hi.out.2.1.at_ y hyM
        have hX := hi.out.2.1.at_ x hxM
        have hxh : x.h = H := by rw [HXE.out]
        have x2 := blk_cell hX.nd 2
        have y2 := blk_cell hY.nd 2
        have xk := blk_cell hX.row k
        have yk := blk_cell hY.row k
        have xf := blk_frozen hX.row k
        have yf := blk_frozen hY.row k
        have gk0 := blk_cell hi.out.2.2.2.1 k
        simp only [List.getElem?_toArray, List.getElem?_cons_zero, List.getElem?_cons_succ] at x2 y2
        rw [rowOf_at _ _ (by rw [hxh]; exact hlt)] at xk
        rw [rowOf_at _ _ e3, show fput f0 gg x.b k y.b k = f0 y.b k by unfold fput; rw [if_neg (Nat.lt_irrefl k)]] at yk
        rw [outA_at gg (by omega), ← e2] at gk0
        rw [hxh] at x2
        have hne : y.r ≠ x.r := by have := (HLT.out y (by rw [HP.out.eq]; rcases List.mem_cons.1 hyA with h | h <;> simp [h])).2; have := HWB.out; have := HER.out; omega
        have hne' : x.r ≠ y.r := fun e => hne e.symm
        have hbx : gg k ≠ x.b := by rw [← e2]; have := (HLT.out y (by rw [HP.out.eq]; rcases List.mem_cons.1 hyA with h | h <;> simp [h])).1; have := HWB.out; have := HEB.out; omega
        have yh : (k : Int) < (y.h : Int) := by omega
        generalize hq : f0 y.b k = q at yk
        have HQ := Lib.hid (And.intro hq e2)
        have HY := Lib.hid (And.intro hyM (And.intro hxM (And.intro hbx (And.intro hyA hne))))
        obtain ⟨yk2, hyk2⟩ : ∃ u, (wr.setCell ⟨x.r, k, none⟩ (ptrV q)).cell? ⟨y.r, k, none⟩ = some u := cs ⟨_, yk⟩
        obtain ⟨xk2, hxk2⟩ : ∃ u, (wr.setCell ⟨y.r, k, none⟩ (.pointer (some ⟨x.b, 0, none⟩))).cell? ⟨x.r, k, none⟩ = some u := cs ⟨_, xk⟩
        obtain ⟨po, hpq⟩ := ptrV_form q
        rw [hpq] at yk hyk2
        have HPQ := Lib.hid hpq
        clear hpq hq e1 e2 e3 e4 hyA hyM hxM hY hX hxh hbx
        go_wp2_with fail
        go_region
        have m2 : MemOf ((wr.setCell ⟨x.r, k, none⟩ (.pointer po)).setCell ⟨y.r, k, none⟩ (.pointer (some ⟨x.b, 0, none⟩))) ((hd :: A0) ++ x :: B) (fput f0 gg x.b (k + 1)) := by
          have m1 := (hi.out.2.1.set_row HY.out.2.1 (k := k) q).set_row HY.out.1 (k := k) (some x.b)
          rw [HQ.out.2, show q = f0 (gg k) k by rw [← HQ.out.2]; exact HQ.out.1.symm, fput_step _ _ _ _ HY.out.2.2.1] at m1
          rw [← HPQ.out, show q = f0 (gg k) k by rw [← HQ.out.2]; exact HQ.out.1.symm]
          exact m1
        have t2 : Turn (fun b => b = x.r ∨ b = y.r) wr ((wr.setCell ⟨x.r, k, none⟩ (.pointer po)).setCell ⟨y.r, k, none⟩ (.pointer (some ⟨x.b, 0, none⟩))) := Turn.setCell (p := ⟨y.r, k, none⟩) (Turn.setCell (p := ⟨x.r, k, none⟩) (Turn.refl _ _) (.inl (.inl rfl)) _) (.inl (.inr rfl)) _
        have t3 : Turn F w ((wr.setCell ⟨x.r, k, none⟩ (.pointer po)).setCell ⟨y.r, k, none⟩ (.pointer (some ⟨x.b, 0, none⟩))) := Turn.setCell (p := ⟨y.r, k, none⟩) (Turn.setCell (p := ⟨x.r, k, none⟩) hi.out.2.2.2.2 (.inr (by show w.heap.size ≤ x.r; have := HWB.out; have := HER.out; omega)) _) (.inl (HFT.out y HY.out.2.2.2.1)) _
        have lne : ¬ (l = x.r ∨ l = y.r) := by
          rintro (e | e)
          · have h1 := blk_lt HT.out.hl; have := HWB.out; have := HER.out; omega
          · exact HT.out.fl ⟨y, by rw [HP.out.eq]; rcases List.mem_cons.1 HY.out.2.2.2.1 with h | h <;> simp [h], .inr e⟩
        have gne : ¬ (g = x.r ∨ g = y.r) := by
          rintro (e | e)
          · have h1 := blk_lt HS.out.out; have := HER.out; omega
          · have h1 := (HLT.out y (by rw [HP.out.eq]; rcases List.mem_cons.1 HY.out.2.2.2.1 with h | h <;> simp [h])).2; have := HGS.out; omega
        have HF2 := Lib.hid (And.intro m2 (And.intro (t2.blk hi.out.2.2.1 lne) (And.intro (t2.blk hi.out.2.2.2.1 gne) t3)))
        clear m2 t2 t3 lne gne x2 y2 xk yk xf yf gk0 hyk2 hxk2
        generalize (wr.setCell ⟨x.r, k, none⟩ (.pointer po)).setCell ⟨y.r, k, none⟩ (.pointer (some ⟨x.b, 0, none⟩)) = wz at *
        go_wp2_with fail
        go_roundg (H - (k + 1))
        case measure => omega
        case rel =>
          have hd : ∀ {W : World}, Turn Nope wz W → MemOf W ((hd :: A0) ++ x :: B) (fput f0 gg x.b (k + 1)) ∧ W.heap[l]? = some (.cells #[.pointer (some ⟨hd.b, 0, none⟩), .int .i64 (ns.length : Int)] 73 (0, 0)) ∧ W.heap[g]? = some (.cells (outA gg 0) 68 (0, 0)) ∧ Turn F w W := fun hW =>
            ⟨HF2.out.1.keep hW (fun _ _ h => h), hW.blk HF2.out.2.1 (fun h => h), hW.blk HF2.out.2.2.1 (fun h => h), HF2.out.2.2.2.trans hW.ofNope⟩
          exact ⟨k + 1, by go_num, by omega, hd (by repeat (first | exact Turn.refl _ _ | apply Turn.drewN | apply Turn.drew))⟩
      · obtain rfl : k = H := by omega
        have b1 : decide ((k : Int) < (k : Int)) = false := by simp
        have hln := HN.out
        have l1 := blk_cell hi.out.2.2.1 1
        have lf := blk_frozen hi.out.2.2.1 1
        simp only [List.getElem?_toArray, List.getElem?_cons_zero, List.getElem?_cons_succ] at l1
        have hw : wrap64 ((ns.length : Int) + 1) = (ns.length : Int) + 1 := IntWalk.wrap64_in _ ⟨by omega, by omega⟩
        clear hlt hik hln
        go_wp2_with fail
        go_ret
        have hxL : x.b ∉ Bs ((hd :: A0) ++ B) := fun e => by
          obtain ⟨y, hy, e2⟩ := List.mem_map.1 e
          have := (HLT.out y (by rw [HP.out.eq]; exact hy)).1
          have := HWB.out; have := HEB.out; omega
        have hlk : Links (fput f0 gg x.b x.h) ((hd :: A0) ++ x :: B) := by
          refine links_put (f := f0) ?_ ?_ (fun h hh => HS.out.bef h ?_) hxL
          · rw [← HF0.out]
            exact links_more (by have := HT.out.links; rw [HP.out.eq] at this; exact this) hxL
          · have := HT.out.mem.nb; rw [HP.out.eq] at this; exact this
          · have e : x.h = k := by rw [HXE.out]
            omega
        have exh : x.h = k := by rw [HXE.out]
        rw [exh] at hlk
        have tt : Turn (At l) wr (wr.setCell ⟨l, 1, none⟩ (.int .i64 ((ns.length : Int) + 1))) := (Turn.refl _ _).set_at _
        have hfl : ¬ Foot (hd :: (A0 ++ x :: B)) l := by
          rintro ⟨y, hy, h⟩
          by_cases hyx : y = x
          · subst hyx
            have h1 := blk_lt HT.out.hl; have := HWB.out; have := HER.out; have := HEB.out
            rcases h with h | h <;> omega
          · refine HT.out.fl ⟨y, ?_, h⟩
            rw [HP.out.eq]
            rcases List.mem_cons.1 hy with h1 | h1
            · simp [h1]
            · rcases List.mem_append.1 h1 with h1 | h1
              · simp [h1]
              · rcases List.mem_cons.1 h1 with h1 | h1
                · exact absurd h1 hyx
                · simp [h1]
        have hmm : MemOf (wr.setCell ⟨l, 1, none⟩ (.int .i64 ((ns.length : Int) + 1))) ((hd :: A0) ++ x :: B) (fput f0 gg x.b k) := hi.out.2.1.keep tt (fun b hb e => hfl (by rw [← show b = l from e]; exact hb))
        refine ⟨rfl, fun b => b = l ∨ Foot (hd :: (A0 ++ x :: B)) b, ⟨hd, A0 ++ x :: B, _, ⟨?_, hmm, hlk, HT.out.hh, ?_, ?_, fun b => Iff.rfl, hfl⟩, ?_⟩, ?_, ?_⟩
        · have := blk_set hi.out.2.2.1 1 (.int .i64 ((ns.length : Int) + 1))
          rw [show ((A0 ++ x :: B).length : Int) = (ns.length : Int) + 1 by rw [HP.out.eq]; simp; omega]
          exact this
        · intro y hy
          rcases List.mem_append.1 hy with h1 | h1
          · exact HT.out.hs y (by rw [HP.out.eq]; simp [h1])
          · rcases List.mem_cons.1 h1 with rfl | h1
            · rw [exh, ← HH.out, HXE.out]
            · exact HT.out.hs y (by rw [HP.out.eq]; simp [h1])
        · have hs := HT.out.sorted
          rw [HP.out.eq] at hs
          rw [List.pairwise_append] at hs ⊢
          have ev : x.vs = v := by rw [HXE.out]
          refine ⟨hs.1, List.pairwise_cons.2 ⟨fun b hb => by rw [ev]; exact HB.out b hb, hs.2.1⟩, fun a ha b hb => ?_⟩
          rcases List.mem_cons.1 hb with rfl | hb
          · rw [ev]; exact HP.out.lo a ha
          · exact hs.2.2 a ha b hb
        · rw [tOf_app, HXE.out]; rfl
        · intro b hb
          rcases hb with rfl | ⟨y, hy, h⟩
          · exact .inl HFL.out
          · by_cases hyx : y = x
            · subst hyx
              have := HWB.out; have := HER.out; have := HEB.out
              rcases h with h | h <;> exact .inr (by omega)
            · refine .inl ((HT.out.foot b).2 (.inr ⟨y, ?_, h⟩))
              rw [HP.out.eq]
              rcases List.mem_cons.1 hy with h1 | h1
              · simp [h1]
              · rcases List.mem_append.1 h1 with h1 | h1
                · simp [h1]
                · rcases List.mem_cons.1 h1 with h1 | h1
                  · exact absurd h1 hyx
                  · simp [h1]
        · exact Turn.setCell (p := ⟨l, 1, none⟩) hi.out.2.2.2.2 (.inl HFL.out) _
end Go.Proofs.YtdkojpfhmohaeaaDoor.TS
