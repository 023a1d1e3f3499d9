/- APART: the walk of ObjectApart. -/
import Derived.Test.YteggenihjhclkaaOp
import Derived.Test.YteggenihjhclkaaOkd
set_option maxRecDepth 16000
set_option linter.unusedVariables false
set_option linter.unusedSimpArgs false
namespace Go.Proofs.Yteggenihjhclkaa
open Go.RowKit Go.Maps
open Lg (Nm nmOf arr_nm nm_len)
variable {w0 w w' W W' : World} {b m c : Nat} {P Q R : PS}
/-- It goes on, with frame A, in a world of which R holds. -/
def AtN (A : Act) (R : World → Prop) : Exit → Act → World → Prop
  | .normal, a, w => a = A ∧ R w
  | _, _, _ => False
theorem AtN.use {A : Act} {R : World → Prop} {Q : Exit → Act → World → Prop} (h : ∀ w, R w → Q .normal A w) : ∀ e a w, AtN A R e a w → Q e a w := by
  intro e a w h1
  cases e <;> first | exact False.elim h1 | (obtain ⟨rfl, h2⟩ := h1; exact h w h2)
/-- Two objects and two boxes: what stays where one object is turned. -/
structure Two (w W : World) (p q : Nat) (fa fb : OOp) (b m c : Nat) (P : PS) (b2 m2 c2 : Nat) (Q : PS) : Prop where
  tn : Turn Nope w W
  bp : OpBx W p fa
  bq : OpBx W q fb
  x : Ob w W b m c P
  y : Ob w W b2 m2 c2 Q
  ne : (p ≠ m ∧ q ≠ m) ∧ (p ≠ m2 ∧ q ≠ m2) ∧ m ≠ m2 ∧ b ≠ m2 ∧ b2 ≠ m
variable {p q b2 m2 c2 : Nat} {fa fb : OOp}
theorem Two.nope (h : Two w W p q fa fb b m c P b2 m2 c2 Q) (ht : Turn Nope W W') : Two w W' p q fa fb b m c P b2 m2 c2 Q :=
  ⟨h.tn.trans ht, ht.blk h.bp fun h => h, ht.blk h.bq fun h => h, h.x.nope ht, h.y.nope ht, h.ne⟩
theorem Two.onX {c' : Nat} {P' : PS} (h : Two w W p q fa fb b m c P b2 m2 c2 Q) (ht : Turn (At m) W W') (hx : Ob w W' b m c' P') : Two w W' p q fa fb b m c' P' b2 m2 c2 Q :=
  ⟨h.tn.then ht fun j hj => .inr (by rw [show j = m from hj]; exact h.x.lo.2), ht.blk h.bp (fun e => h.ne.1.1 e), ht.blk h.bq (fun e => h.ne.1.2 e), hx, h.y.turn ht (fun e => h.ne.2.2.2.2 e) (fun e => h.ne.2.2.1 (show m2 = m from e).symm), h.ne⟩
theorem Two.onY {c' : Nat} {Q' : PS} (h : Two w W p q fa fb b m c P b2 m2 c2 Q) (ht : Turn (At m2) W W') (hy : Ob w W' b2 m2 c' Q') : Two w W' p q fa fb b m c P b2 m2 c' Q' :=
  ⟨h.tn.then ht fun j hj => .inr (by rw [show j = m2 from hj]; exact h.y.lo.2), ht.blk h.bp (fun e => h.ne.2.1.1 e), ht.blk h.bq (fun e => h.ne.2.1.2 e), h.x.turn ht (fun e => h.ne.2.2.2.1 e) (fun e => h.ne.2.2.1 e), hy, h.ne⟩
theorem far12 {g c : Nat} {x : Obj} (h : w.heap[g]? = some x) (hne : g ≠ c) (v0 v1 v2 v3 v4 v5 v6 v7 v8 v9 v10 v11 : Value) : ((((((((((((w.setCell ⟨c, 0, none⟩ v0).setCell ⟨c, 1, none⟩ v1).setCell ⟨c, 2, none⟩ v2).setCell ⟨c, 3, none⟩ v3).setCell ⟨c, 4, none⟩ v4).setCell ⟨c, 5, none⟩ v5).setCell ⟨c, 6, none⟩ v6).setCell ⟨c, 7, none⟩ v7).setCell ⟨c, 8, none⟩ v8).setCell ⟨c, 9, none⟩ v9).setCell ⟨c, 10, none⟩ v10).setCell ⟨c, 11, none⟩ v11).heap[g]? = some x := (blk_far (p := ⟨c, 11, none⟩) (blk_far (p := ⟨c, 10, none⟩) (blk_far (p := ⟨c, 9, none⟩) (blk_far (p := ⟨c, 8, none⟩) (blk_far (p := ⟨c, 7, none⟩) (blk_far (p := ⟨c, 6, none⟩) (blk_far (p := ⟨c, 5, none⟩) (blk_far (p := ⟨c, 4, none⟩) (blk_far (p := ⟨c, 3, none⟩) (blk_far (p := ⟨c, 2, none⟩) (blk_far (p := ⟨c, 1, none⟩) (blk_far (p := ⟨c, 0, none⟩) h hne v0) hne v1) hne v2) hne v3) hne v4) hne v5) hne v6) hne v7) hne v8) hne v9) hne v10) hne v11)
theorem fld47 (e : Int) (g : ByteArray) (W : World) : (Instr.field 47 (.agg #[.int .i64 e, .string g]) 0).run Try.prog W = .ok (.int .i64 e) W := by kernel_rfl
theorem Op12.lo {ad : Addr} {i : Nat} {o : OOp} (h : Op12 w ad i o) : ad.block < w.heap.size ∧ (ad.add (i * 12)).block = ad.block := by
  have h0 := World.block_lt_of_cell? w _ h.1
  have h1 : (ad.add (i * 12)).block = ad.block := by
    unfold Addr.add
    split <;> rfl
  rw [h1] at h0
  exact ⟨h0, h1⟩
set_option maxHeartbeats 64000000 in
theorem apart_walk (n : Int) (a : Option Addr) (len cap : Nat) (xk xtk xta : Int) (xts : ByteArray) (xtn xlk : Int) (xln xlt : ByteArray) (xla xsk : Int) (xsn : ByteArray) (xsN : Int) (yk ytk yta : Int) (yts : ByteArray) (ytn ylk : Int) (yln ylt : ByteArray) (yla ysk : Int) (ysn : ByteArray) (ysN : Int) (w : World) (hin : OpsIn w a len) :
    Calls Try.prog 3 #[.int .i64 n, .slice a len cap, .agg #[.int .i64 xk, .int .i64 xtk, .int .i64 xta, .string xts, .int .i64 xtn, .int .i64 xlk, .string xln, .string xlt, .int .i64 xla, .int .i64 xsk, .string xsn, .int .i64 xsN], .agg #[.int .i64 yk, .int .i64 ytk, .int .i64 yta, .string yts, .int .i64 ytn, .int .i64 ylk, .string yln, .string ylt, .int .i64 yla, .int .i64 ysk, .string ysn, .int .i64 ysN]] w fun e w' => e = .returned (.bool true) ∧ Below w.heap.size w w' := by
  have HIN := Lib.hid hin
  clear hin
  obtain ⟨oa, hoa⟩ : ∃ o : OOp, o = ⟨xk, xtk, xta, xts, xtn, xlk, xln, xlt, xla, xsk, xsn, xsN⟩ := ⟨_, rfl⟩
  obtain ⟨ob, hob⟩ : ∃ o : OOp, o = ⟨yk, ytk, yta, yts, ytn, ylk, yln, ylt, yla, ysk, ysn, ysN⟩ := ⟨_, rfl⟩
  have hcs : #[Value.int .i64 xk, Value.int .i64 xtk, Value.int .i64 xta, Value.string xts, Value.int .i64 xtn, Value.int .i64 xlk, Value.string xln, Value.string xlt, Value.int .i64 xla, Value.int .i64 xsk, Value.string xsn, Value.int .i64 xsN] = #[.int .i64 oa.k, .int .i64 oa.tk, .int .i64 oa.ta, .string oa.ts, .int .i64 oa.tn, .int .i64 oa.lk, .string oa.ln, .string oa.lt, .int .i64 oa.la, .int .i64 oa.sk, .string oa.sn, .int .i64 oa.sN] := by rw [hoa]
  have hcs2 : #[Value.int .i64 yk, Value.int .i64 ytk, Value.int .i64 yta, Value.string yts, Value.int .i64 ytn, Value.int .i64 ylk, Value.string yln, Value.string ylt, Value.int .i64 yla, Value.int .i64 ysk, Value.string ysn, Value.int .i64 ysN] = #[.int .i64 ob.k, .int .i64 ob.tk, .int .i64 ob.ta, .string ob.ts, .int .i64 ob.tn, .int .i64 ob.lk, .string ob.ln, .string ob.lt, .int .i64 ob.la, .int .i64 ob.sk, .string ob.sn, .int .i64 ob.sN] := by rw [hob]
  rw [hcs, hcs2]
  clear hcs hcs2 hoa hob xk xtk xta xts xtn xlk xln xlt xla xsk xsn xsN yk ytk yta yts ytn ylk yln ylt yla ysk ysn ysN
  obtain ⟨k, hkn⟩ : ∃ k, kindN n = k := ⟨_, rfl⟩
  have HKN := Lib.hid hkn
  have HK : Hid (1 ≤ k ∧ k ≤ 3) := by rw [← hkn]; exact ⟨(kindN_spec n).1, (kindN_spec n).2.1⟩
  clear hkn
  obtain ⟨T, FD, FS, FC, FK, hm⟩ := Mt.mk' (PS.new k)
  have HM := Lib.hid hm
  clear hm
  obtain ⟨fa, hfa⟩ : ∃ o, few oa = o := ⟨_, rfl⟩
  obtain ⟨fb, hfb⟩ : ∃ o, few ob = o := ⟨_, rfl⟩
  have HZ : Hid ((fa.ln.size ≤ maxLen ∧ fa.lt.size ≤ maxLen ∧ fa.sn.size ≤ maxLen) ∧ (fb.ln.size ≤ maxLen ∧ fb.lt.size ≤ maxLen ∧ fb.sn.size ≤ maxLen)) := by rw [← hfa, ← hfb]; exact ⟨few_sz oa, few_sz ob⟩
  obtain ⟨d, hd⟩ : ∃ d, oApart fa fb = d := ⟨_, rfl⟩
  have HOA : Hid (oApart fa fb = d ∧ oApart fb fa = d) := ⟨hd, by rw [oa_comm]; exact hd⟩
  clear hd
  go_enter Try.func3, Try.ntmps3
  go_wp2_with fail
  obtain ⟨p, hp⟩ : ∃ p, w.heap.size = p := ⟨_, rfl⟩
  have HF : Hid (Turn Nope w ((w.alloc (.cells #[.int .i64 oa.k, .int .i64 oa.tk, .int .i64 oa.ta, .string oa.ts, .int .i64 oa.tn, .int .i64 oa.lk, .string oa.ln, .string oa.lt, .int .i64 oa.la, .int .i64 oa.sk, .string oa.sn, .int .i64 oa.sN] 30)).alloc (.cells #[.int .i64 ob.k, .int .i64 ob.tk, .int .i64 ob.ta, .string ob.ts, .int .i64 ob.tn, .int .i64 ob.lk, .string ob.ln, .string ob.lt, .int .i64 ob.la, .int .i64 ob.sk, .string ob.sn, .int .i64 ob.sN] 30)) ∧ OpBx ((w.alloc (.cells #[.int .i64 oa.k, .int .i64 oa.tk, .int .i64 oa.ta, .string oa.ts, .int .i64 oa.tn, .int .i64 oa.lk, .string oa.ln, .string oa.lt, .int .i64 oa.la, .int .i64 oa.sk, .string oa.sn, .int .i64 oa.sN] 30)).alloc (.cells #[.int .i64 ob.k, .int .i64 ob.tk, .int .i64 ob.ta, .string ob.ts, .int .i64 ob.tn, .int .i64 ob.lk, .string ob.ln, .string ob.lt, .int .i64 ob.la, .int .i64 ob.sk, .string ob.sn, .int .i64 ob.sN] 30)) p oa ∧ OpBx ((w.alloc (.cells #[.int .i64 oa.k, .int .i64 oa.tk, .int .i64 oa.ta, .string oa.ts, .int .i64 oa.tn, .int .i64 oa.lk, .string oa.ln, .string oa.lt, .int .i64 oa.la, .int .i64 oa.sk, .string oa.sn, .int .i64 oa.sN] 30)).alloc (.cells #[.int .i64 ob.k, .int .i64 ob.tk, .int .i64 ob.ta, .string ob.ts, .int .i64 ob.tn, .int .i64 ob.lk, .string ob.ln, .string ob.lt, .int .i64 ob.la, .int .i64 ob.sk, .string ob.sn, .int .i64 ob.sN] 30)) (p + 1) ob) := by
    refine ⟨((Turn.refl _ _).alloc _).alloc _, ?_, ?_⟩
    · rw [← hp]; exact blk_alloc (blk_new _ _) _
    · have := blk_new (w.alloc (.cells #[.int .i64 oa.k, .int .i64 oa.tk, .int .i64 oa.ta, .string oa.ts, .int .i64 oa.tn, .int .i64 oa.lk, .string oa.ln, .string oa.lt, .int .i64 oa.la, .int .i64 oa.sk, .string oa.sn, .int .i64 oa.sN] 30)) (.cells #[.int .i64 ob.k, .int .i64 ob.tk, .int .i64 ob.ta, .string ob.ts, .int .i64 ob.tn, .int .i64 ob.lk, .string ob.ln, .string ob.lt, .int .i64 ob.la, .int .i64 ob.sk, .string ob.sn, .int .i64 ob.sN] 30)
      rw [show (w.alloc (.cells #[.int .i64 oa.k, .int .i64 oa.tk, .int .i64 oa.ta, .string oa.ts, .int .i64 oa.tn, .int .i64 oa.lk, .string oa.ln, .string oa.lt, .int .i64 oa.la, .int .i64 oa.sk, .string oa.sn, .int .i64 oa.sN] 30)).heap.size = p + 1 by simp [hp]] at this
      exact this
  have HPQ : Hid (w.heap.size ≤ p ∧ w.heap.size ≤ p + 1 ∧ p ≠ p + 1) := ⟨by omega, by omega, by omega⟩
  rw [hp]
  obtain ⟨q, hq⟩ : ∃ q, p + 1 = q := ⟨_, rfl⟩
  rw [hq] at HF HPQ ⊢
  generalize ((w.alloc (.cells #[.int .i64 oa.k, .int .i64 oa.tk, .int .i64 oa.ta, .string oa.ts, .int .i64 oa.tn, .int .i64 oa.lk, .string oa.ln, .string oa.lt, .int .i64 oa.la, .int .i64 oa.sk, .string oa.sn, .int .i64 oa.sN] 30)).alloc (.cells #[.int .i64 ob.k, .int .i64 ob.tk, .int .i64 ob.ta, .string ob.ts, .int .i64 ob.tn, .int .i64 ob.lk, .string ob.ln, .string ob.lt, .int .i64 ob.la, .int .i64 ob.sk, .string ob.sn, .int .i64 ob.sN] 30)) = w1 at HF ⊢
  clear hp hq
  refine (awake_any _).mono ?_
  rintro e w2 ⟨rfl, ht⟩
  replace HF := Lib.hid (And.intro (HF.out.1.trans ht) (And.intro (show OpBx w2 p oa from ht.blk HF.out.2.1 fun h => h) (show OpBx w2 q ob from ht.blk HF.out.2.2 fun h => h)))
  clear ht
  go_wp2_with fail
  refine (okind_any n w2).mono ?_
  rintro e w3 ⟨rfl, rfl⟩
  rw [HKN.out]
  go_upto_region 4 with fail
  apply Code.wp_mono (Q := AtN _ (fun W => Turn Nope w W ∧ OpBx W p fa ∧ OpBx W q fb))
  rotate_left
  · skip
    replace HF := Lib.hid (And.intro (HF.out.1.trans (Turn.refl Nope _).drew) (And.intro (show OpBx w3.drew p oa from HF.out.2.1) (show OpBx w3.drew q ob from HF.out.2.2)))
    refine wp_region_held_drew (S := fun _ => True) (by kernel_rfl) trivial (fun hHeld => ?_)
    refine wpAnyH_ready (rs := [0, 2]) (by kernel_rfl) (by simp) (AllReadyH.cons (by simp only [List.getElem?_toArray, List.getElem?_cons_succ, List.getElem?_cons_zero]; rfl) (fun K hK => ?_) (AllReadyH.cons (by simp only [List.getElem?_toArray, List.getElem?_cons_succ, List.getElem?_cons_zero]; rfl) (fun K hK => ?_) AllReadyH.nil))
    · rw [if_pos (by first | rfl | (simp [Region.wanted]; done) | kernel_rfl)]
      obtain ⟨⟨c0, c1, c2, c3, c4, c5, c6, c7, c8, c9, c10, c11⟩, -⟩ := HF.out.2.1.cells
      go_simp
      clear c0 c1 c2 c3 c4 c5 c6 c7 c8 c9 c10 c11
      refine hK.out _ _ ?_ (fun hHeld => ?_)
      · trivial
      clear hK K
      try simp only [Act.put, List.setIfInBounds_toArray, List.set_cons_zero, List.set_cons_succ]
      refine wpAnyH_ready (rs := [1, 2]) (by kernel_rfl) (by simp) (AllReadyH.cons (by simp only [List.getElem?_toArray, List.getElem?_cons_succ, List.getElem?_cons_zero]; rfl) (fun K hK => ?_) (AllReadyH.cons (by simp only [List.getElem?_toArray, List.getElem?_cons_succ, List.getElem?_cons_zero]; rfl) (fun K hK => ?_) AllReadyH.nil))
      · rw [if_pos (by first | rfl | (simp [Region.wanted]; done) | kernel_rfl)]
        go_simp
        refine (few_any oa _).mono ?_
        rintro e y ⟨rfl, ht⟩
        replace HF := Lib.hid (And.intro (HF.out.1.trans ht) (And.intro (show OpBx y p oa from ht.blk HF.out.2.1 fun h => h) (show OpBx y q ob from ht.blk HF.out.2.2 fun h => h)))
        clear ht
        rw [hfa, show opC fa = #[.int .i64 fa.k, .int .i64 fa.tk, .int .i64 fa.ta, .string fa.ts, .int .i64 fa.tn, .int .i64 fa.lk, .string fa.ln, .string fa.lt, .int .i64 fa.la, .int .i64 fa.sk, .string fa.sn, .int .i64 fa.sN] from rfl]
        refine hK.out _ _ ?_ (fun hHeld => ?_)
        · trivial
        clear hK K
        try simp only [Act.put, List.setIfInBounds_toArray, List.set_cons_zero, List.set_cons_succ]
        refine wpAnyH_ready (rs := [2]) (by kernel_rfl) (by simp) (AllReadyH.cons (by simp only [List.getElem?_toArray, List.getElem?_cons_succ, List.getElem?_cons_zero]; rfl) (fun K hK => ?_) AllReadyH.nil)
        rw [if_pos (by first | rfl | (simp [Region.wanted]; done) | kernel_rfl)]
        obtain ⟨⟨c0, c1, c2, c3, c4, c5, c6, c7, c8, c9, c10, c11⟩, -⟩ := HF.out.2.2.cells
        go_simp
        clear c0 c1 c2 c3 c4 c5 c6 c7 c8 c9 c10 c11
        refine hK.out _ _ ?_ (fun hHeld => ?_)
        · trivial
        clear hK K
        try simp only [Act.put, List.setIfInBounds_toArray, List.set_cons_zero, List.set_cons_succ]
        refine wpAnyH_ready (rs := [3]) (by kernel_rfl) (by simp) (AllReadyH.cons (by simp only [List.getElem?_toArray, List.getElem?_cons_succ, List.getElem?_cons_zero]; rfl) (fun K hK => ?_) AllReadyH.nil)
        rw [if_pos (by first | rfl | (simp [Region.wanted]; done) | kernel_rfl)]
        go_simp
        refine (few_any ob _).mono ?_
        rintro e y ⟨rfl, ht⟩
        replace HF := Lib.hid (And.intro (HF.out.1.trans ht) (And.intro (show OpBx y p oa from ht.blk HF.out.2.1 fun h => h) (show OpBx y q ob from ht.blk HF.out.2.2 fun h => h)))
        clear ht
        rw [hfb, show opC fb = #[.int .i64 fb.k, .int .i64 fb.tk, .int .i64 fb.ta, .string fb.ts, .int .i64 fb.tn, .int .i64 fb.lk, .string fb.ln, .string fb.lt, .int .i64 fb.la, .int .i64 fb.sk, .string fb.sn, .int .i64 fb.sN] from rfl]
        refine hK.out _ _ ?_ (fun hHeld => ?_)
        · trivial
        clear hK K
        try simp only [Act.put, List.setIfInBounds_toArray, List.set_cons_zero, List.set_cons_succ]
        refine wpAnyH_ready (rs := [4]) (by kernel_rfl) (by simp) (AllReadyH.cons (by simp only [List.getElem?_toArray, List.getElem?_cons_succ, List.getElem?_cons_zero]; rfl) (fun K hK => ?_) AllReadyH.nil)
        rw [if_pos (by first | rfl | (simp [Region.wanted]; done) | kernel_rfl)]
        obtain ⟨⟨c0, c1, c2, c3, c4, c5, c6, c7, c8, c9, c10, c11⟩, ⟨f0, f1, f2, f3, f4, f5, f6, f7, f8, f9, f10, f11⟩⟩ := HF.out.2.1.cells
        go_simp
        clear c0 c1 c2 c3 c4 c5 c6 c7 c8 c9 c10 c11 f0 f1 f2 f3 f4 f5 f6 f7 f8 f9 f10 f11
        replace HF := Lib.hid (And.intro (turn_put12 HF.out.1 (g := p) (.inr HPQ.out.1) (.int .i64 fa.k) (.int .i64 fa.tk) (.int .i64 fa.ta) (.string fa.ts) (.int .i64 fa.tn) (.int .i64 fa.lk) (.string fa.ln) (.string fa.lt) (.int .i64 fa.la) (.int .i64 fa.sk) (.string fa.sn) (.int .i64 fa.sN)) (And.intro (show OpBx _ p fa from blk_put12 (v0 := .int .i64 fa.k) (v1 := .int .i64 fa.tk) (v2 := .int .i64 fa.ta) (v3 := .string fa.ts) (v4 := .int .i64 fa.tn) (v5 := .int .i64 fa.lk) (v6 := .string fa.ln) (v7 := .string fa.lt) (v8 := .int .i64 fa.la) (v9 := .int .i64 fa.sk) (v10 := .string fa.sn) (v11 := .int .i64 fa.sN) HF.out.2.1) (show OpBx _ q ob from far12 HF.out.2.2 HPQ.out.2.2.symm (.int .i64 fa.k) (.int .i64 fa.tk) (.int .i64 fa.ta) (.string fa.ts) (.int .i64 fa.tn) (.int .i64 fa.lk) (.string fa.ln) (.string fa.lt) (.int .i64 fa.la) (.int .i64 fa.sk) (.string fa.sn) (.int .i64 fa.sN))))
        generalize (((((((((((y.setCell ⟨p, 0, none⟩ (.int .i64 fa.k)).setCell ⟨p, 1, none⟩ (.int .i64 fa.tk)).setCell ⟨p, 2, none⟩ (.int .i64 fa.ta)).setCell ⟨p, 3, none⟩ (.string fa.ts)).setCell ⟨p, 4, none⟩ (.int .i64 fa.tn)).setCell ⟨p, 5, none⟩ (.int .i64 fa.lk)).setCell ⟨p, 6, none⟩ (.string fa.ln)).setCell ⟨p, 7, none⟩ (.string fa.lt)).setCell ⟨p, 8, none⟩ (.int .i64 fa.la)).setCell ⟨p, 9, none⟩ (.int .i64 fa.sk)).setCell ⟨p, 10, none⟩ (.string fa.sn)).setCell ⟨p, 11, none⟩ (.int .i64 fa.sN) = y4 at HF ⊢
        refine hK.out _ _ ?_ (fun hHeld => ?_)
        · trivial
        clear hK K
        try simp only [Act.put, List.setIfInBounds_toArray, List.set_cons_zero, List.set_cons_succ]
        refine wpAnyH_ready (rs := [5]) (by kernel_rfl) (by simp) (AllReadyH.cons (by simp only [List.getElem?_toArray, List.getElem?_cons_succ, List.getElem?_cons_zero]; rfl) (fun K hK => ?_) AllReadyH.nil)
        rw [if_pos (by first | rfl | (simp [Region.wanted]; done) | kernel_rfl)]
        obtain ⟨⟨c0, c1, c2, c3, c4, c5, c6, c7, c8, c9, c10, c11⟩, ⟨f0, f1, f2, f3, f4, f5, f6, f7, f8, f9, f10, f11⟩⟩ := HF.out.2.2.cells
        go_simp
        clear c0 c1 c2 c3 c4 c5 c6 c7 c8 c9 c10 c11 f0 f1 f2 f3 f4 f5 f6 f7 f8 f9 f10 f11
        replace HF := Lib.hid (And.intro (turn_put12 HF.out.1 (g := q) (.inr HPQ.out.2.1) (.int .i64 fb.k) (.int .i64 fb.tk) (.int .i64 fb.ta) (.string fb.ts) (.int .i64 fb.tn) (.int .i64 fb.lk) (.string fb.ln) (.string fb.lt) (.int .i64 fb.la) (.int .i64 fb.sk) (.string fb.sn) (.int .i64 fb.sN)) (And.intro (show OpBx _ p fa from far12 HF.out.2.1 HPQ.out.2.2 (.int .i64 fb.k) (.int .i64 fb.tk) (.int .i64 fb.ta) (.string fb.ts) (.int .i64 fb.tn) (.int .i64 fb.lk) (.string fb.ln) (.string fb.lt) (.int .i64 fb.la) (.int .i64 fb.sk) (.string fb.sn) (.int .i64 fb.sN)) (show OpBx _ q fb from blk_put12 (v0 := .int .i64 fb.k) (v1 := .int .i64 fb.tk) (v2 := .int .i64 fb.ta) (v3 := .string fb.ts) (v4 := .int .i64 fb.tn) (v5 := .int .i64 fb.lk) (v6 := .string fb.ln) (v7 := .string fb.lt) (v8 := .int .i64 fb.la) (v9 := .int .i64 fb.sk) (v10 := .string fb.sn) (v11 := .int .i64 fb.sN) HF.out.2.2)))
        generalize (((((((((((y4.setCell ⟨q, 0, none⟩ (.int .i64 fb.k)).setCell ⟨q, 1, none⟩ (.int .i64 fb.tk)).setCell ⟨q, 2, none⟩ (.int .i64 fb.ta)).setCell ⟨q, 3, none⟩ (.string fb.ts)).setCell ⟨q, 4, none⟩ (.int .i64 fb.tn)).setCell ⟨q, 5, none⟩ (.int .i64 fb.lk)).setCell ⟨q, 6, none⟩ (.string fb.ln)).setCell ⟨q, 7, none⟩ (.string fb.lt)).setCell ⟨q, 8, none⟩ (.int .i64 fb.la)).setCell ⟨q, 9, none⟩ (.int .i64 fb.sk)).setCell ⟨q, 10, none⟩ (.string fb.sn)).setCell ⟨q, 11, none⟩ (.int .i64 fb.sN) = y5 at HF ⊢
        refine hK.out _ _ ?_ (fun hHeld => ?_)
        · trivial
        clear hK K
        try simp only [Act.put, List.setIfInBounds_toArray, List.set_cons_zero, List.set_cons_succ]
        refine wpAnyH_done (by kernel_rfl) ?_ _
        exact ⟨rfl, HF.out⟩
      · rw [if_pos (by first | rfl | (simp [Region.wanted]; done) | kernel_rfl)]
        obtain ⟨⟨c0, c1, c2, c3, c4, c5, c6, c7, c8, c9, c10, c11⟩, -⟩ := HF.out.2.2.cells
        go_simp
        clear c0 c1 c2 c3 c4 c5 c6 c7 c8 c9 c10 c11
        refine hK.out _ _ ?_ (fun hHeld => ?_)
        · trivial
        clear hK K
        try simp only [Act.put, List.setIfInBounds_toArray, List.set_cons_zero, List.set_cons_succ]
        refine wpAnyH_ready (rs := [1]) (by kernel_rfl) (by simp) (AllReadyH.cons (by simp only [List.getElem?_toArray, List.getElem?_cons_succ, List.getElem?_cons_zero]; rfl) (fun K hK => ?_) AllReadyH.nil)
        rw [if_pos (by first | rfl | (simp [Region.wanted]; done) | kernel_rfl)]
        go_simp
        refine (few_any oa _).mono ?_
        rintro e y ⟨rfl, ht⟩
        replace HF := Lib.hid (And.intro (HF.out.1.trans ht) (And.intro (show OpBx y p oa from ht.blk HF.out.2.1 fun h => h) (show OpBx y q ob from ht.blk HF.out.2.2 fun h => h)))
        clear ht
        rw [hfa, show opC fa = #[.int .i64 fa.k, .int .i64 fa.tk, .int .i64 fa.ta, .string fa.ts, .int .i64 fa.tn, .int .i64 fa.lk, .string fa.ln, .string fa.lt, .int .i64 fa.la, .int .i64 fa.sk, .string fa.sn, .int .i64 fa.sN] from rfl]
        refine hK.out _ _ ?_ (fun hHeld => ?_)
        · trivial
        clear hK K
        try simp only [Act.put, List.setIfInBounds_toArray, List.set_cons_zero, List.set_cons_succ]
        refine wpAnyH_ready (rs := [3]) (by kernel_rfl) (by simp) (AllReadyH.cons (by simp only [List.getElem?_toArray, List.getElem?_cons_succ, List.getElem?_cons_zero]; rfl) (fun K hK => ?_) AllReadyH.nil)
        rw [if_pos (by first | rfl | (simp [Region.wanted]; done) | kernel_rfl)]
        go_simp
        refine (few_any ob _).mono ?_
        rintro e y ⟨rfl, ht⟩
        replace HF := Lib.hid (And.intro (HF.out.1.trans ht) (And.intro (show OpBx y p oa from ht.blk HF.out.2.1 fun h => h) (show OpBx y q ob from ht.blk HF.out.2.2 fun h => h)))
        clear ht
        rw [hfb, show opC fb = #[.int .i64 fb.k, .int .i64 fb.tk, .int .i64 fb.ta, .string fb.ts, .int .i64 fb.tn, .int .i64 fb.lk, .string fb.ln, .string fb.lt, .int .i64 fb.la, .int .i64 fb.sk, .string fb.sn, .int .i64 fb.sN] from rfl]
        refine hK.out _ _ ?_ (fun hHeld => ?_)
        · trivial
        clear hK K
        try simp only [Act.put, List.setIfInBounds_toArray, List.set_cons_zero, List.set_cons_succ]
        refine wpAnyH_ready (rs := [4]) (by kernel_rfl) (by simp) (AllReadyH.cons (by simp only [List.getElem?_toArray, List.getElem?_cons_succ, List.getElem?_cons_zero]; rfl) (fun K hK => ?_) AllReadyH.nil)
        rw [if_pos (by first | rfl | (simp [Region.wanted]; done) | kernel_rfl)]
        obtain ⟨⟨c0, c1, c2, c3, c4, c5, c6, c7, c8, c9, c10, c11⟩, ⟨f0, f1, f2, f3, f4, f5, f6, f7, f8, f9, f10, f11⟩⟩ := HF.out.2.1.cells
        go_simp
        clear c0 c1 c2 c3 c4 c5 c6 c7 c8 c9 c10 c11 f0 f1 f2 f3 f4 f5 f6 f7 f8 f9 f10 f11
        replace HF := Lib.hid (And.intro (turn_put12 HF.out.1 (g := p) (.inr HPQ.out.1) (.int .i64 fa.k) (.int .i64 fa.tk) (.int .i64 fa.ta) (.string fa.ts) (.int .i64 fa.tn) (.int .i64 fa.lk) (.string fa.ln) (.string fa.lt) (.int .i64 fa.la) (.int .i64 fa.sk) (.string fa.sn) (.int .i64 fa.sN)) (And.intro (show OpBx _ p fa from blk_put12 (v0 := .int .i64 fa.k) (v1 := .int .i64 fa.tk) (v2 := .int .i64 fa.ta) (v3 := .string fa.ts) (v4 := .int .i64 fa.tn) (v5 := .int .i64 fa.lk) (v6 := .string fa.ln) (v7 := .string fa.lt) (v8 := .int .i64 fa.la) (v9 := .int .i64 fa.sk) (v10 := .string fa.sn) (v11 := .int .i64 fa.sN) HF.out.2.1) (show OpBx _ q ob from far12 HF.out.2.2 HPQ.out.2.2.symm (.int .i64 fa.k) (.int .i64 fa.tk) (.int .i64 fa.ta) (.string fa.ts) (.int .i64 fa.tn) (.int .i64 fa.lk) (.string fa.ln) (.string fa.lt) (.int .i64 fa.la) (.int .i64 fa.sk) (.string fa.sn) (.int .i64 fa.sN))))
        generalize (((((((((((y.setCell ⟨p, 0, none⟩ (.int .i64 fa.k)).setCell ⟨p, 1, none⟩ (.int .i64 fa.tk)).setCell ⟨p, 2, none⟩ (.int .i64 fa.ta)).setCell ⟨p, 3, none⟩ (.string fa.ts)).setCell ⟨p, 4, none⟩ (.int .i64 fa.tn)).setCell ⟨p, 5, none⟩ (.int .i64 fa.lk)).setCell ⟨p, 6, none⟩ (.string fa.ln)).setCell ⟨p, 7, none⟩ (.string fa.lt)).setCell ⟨p, 8, none⟩ (.int .i64 fa.la)).setCell ⟨p, 9, none⟩ (.int .i64 fa.sk)).setCell ⟨p, 10, none⟩ (.string fa.sn)).setCell ⟨p, 11, none⟩ (.int .i64 fa.sN) = y4 at HF ⊢
        refine hK.out _ _ ?_ (fun hHeld => ?_)
        · trivial
        clear hK K
        try simp only [Act.put, List.setIfInBounds_toArray, List.set_cons_zero, List.set_cons_succ]
        refine wpAnyH_ready (rs := [5]) (by kernel_rfl) (by simp) (AllReadyH.cons (by simp only [List.getElem?_toArray, List.getElem?_cons_succ, List.getElem?_cons_zero]; rfl) (fun K hK => ?_) AllReadyH.nil)
        rw [if_pos (by first | rfl | (simp [Region.wanted]; done) | kernel_rfl)]
        obtain ⟨⟨c0, c1, c2, c3, c4, c5, c6, c7, c8, c9, c10, c11⟩, ⟨f0, f1, f2, f3, f4, f5, f6, f7, f8, f9, f10, f11⟩⟩ := HF.out.2.2.cells
        go_simp
        clear c0 c1 c2 c3 c4 c5 c6 c7 c8 c9 c10 c11 f0 f1 f2 f3 f4 f5 f6 f7 f8 f9 f10 f11
        replace HF := Lib.hid (And.intro (turn_put12 HF.out.1 (g := q) (.inr HPQ.out.2.1) (.int .i64 fb.k) (.int .i64 fb.tk) (.int .i64 fb.ta) (.string fb.ts) (.int .i64 fb.tn) (.int .i64 fb.lk) (.string fb.ln) (.string fb.lt) (.int .i64 fb.la) (.int .i64 fb.sk) (.string fb.sn) (.int .i64 fb.sN)) (And.intro (show OpBx _ p fa from far12 HF.out.2.1 HPQ.out.2.2 (.int .i64 fb.k) (.int .i64 fb.tk) (.int .i64 fb.ta) (.string fb.ts) (.int .i64 fb.tn) (.int .i64 fb.lk) (.string fb.ln) (.string fb.lt) (.int .i64 fb.la) (.int .i64 fb.sk) (.string fb.sn) (.int .i64 fb.sN)) (show OpBx _ q fb from blk_put12 (v0 := .int .i64 fb.k) (v1 := .int .i64 fb.tk) (v2 := .int .i64 fb.ta) (v3 := .string fb.ts) (v4 := .int .i64 fb.tn) (v5 := .int .i64 fb.lk) (v6 := .string fb.ln) (v7 := .string fb.lt) (v8 := .int .i64 fb.la) (v9 := .int .i64 fb.sk) (v10 := .string fb.sn) (v11 := .int .i64 fb.sN) HF.out.2.2)))
        generalize (((((((((((y4.setCell ⟨q, 0, none⟩ (.int .i64 fb.k)).setCell ⟨q, 1, none⟩ (.int .i64 fb.tk)).setCell ⟨q, 2, none⟩ (.int .i64 fb.ta)).setCell ⟨q, 3, none⟩ (.string fb.ts)).setCell ⟨q, 4, none⟩ (.int .i64 fb.tn)).setCell ⟨q, 5, none⟩ (.int .i64 fb.lk)).setCell ⟨q, 6, none⟩ (.string fb.ln)).setCell ⟨q, 7, none⟩ (.string fb.lt)).setCell ⟨q, 8, none⟩ (.int .i64 fb.la)).setCell ⟨q, 9, none⟩ (.int .i64 fb.sk)).setCell ⟨q, 10, none⟩ (.string fb.sn)).setCell ⟨q, 11, none⟩ (.int .i64 fb.sN) = y5 at HF ⊢
        refine hK.out _ _ ?_ (fun hHeld => ?_)
        · trivial
        clear hK K
        try simp only [Act.put, List.setIfInBounds_toArray, List.set_cons_zero, List.set_cons_succ]
        refine wpAnyH_done (by kernel_rfl) ?_ _
        exact ⟨rfl, HF.out⟩
    · rw [if_pos (by first | rfl | (simp [Region.wanted]; done) | kernel_rfl)]
      obtain ⟨⟨c0, c1, c2, c3, c4, c5, c6, c7, c8, c9, c10, c11⟩, -⟩ := HF.out.2.2.cells
      go_simp
      clear c0 c1 c2 c3 c4 c5 c6 c7 c8 c9 c10 c11
      refine hK.out _ _ ?_ (fun hHeld => ?_)
      · trivial
      clear hK K
      try simp only [Act.put, List.setIfInBounds_toArray, List.set_cons_zero, List.set_cons_succ]
      refine wpAnyH_ready (rs := [0]) (by kernel_rfl) (by simp) (AllReadyH.cons (by simp only [List.getElem?_toArray, List.getElem?_cons_succ, List.getElem?_cons_zero]; rfl) (fun K hK => ?_) AllReadyH.nil)
      rw [if_pos (by first | rfl | (simp [Region.wanted]; done) | kernel_rfl)]
      obtain ⟨⟨c0, c1, c2, c3, c4, c5, c6, c7, c8, c9, c10, c11⟩, -⟩ := HF.out.2.1.cells
      go_simp
      clear c0 c1 c2 c3 c4 c5 c6 c7 c8 c9 c10 c11
      refine hK.out _ _ ?_ (fun hHeld => ?_)
      · trivial
      clear hK K
      try simp only [Act.put, List.setIfInBounds_toArray, List.set_cons_zero, List.set_cons_succ]
      refine wpAnyH_ready (rs := [1]) (by kernel_rfl) (by simp) (AllReadyH.cons (by simp only [List.getElem?_toArray, List.getElem?_cons_succ, List.getElem?_cons_zero]; rfl) (fun K hK => ?_) AllReadyH.nil)
      rw [if_pos (by first | rfl | (simp [Region.wanted]; done) | kernel_rfl)]
      go_simp
      refine (few_any oa _).mono ?_
      rintro e y ⟨rfl, ht⟩
      replace HF := Lib.hid (And.intro (HF.out.1.trans ht) (And.intro (show OpBx y p oa from ht.blk HF.out.2.1 fun h => h) (show OpBx y q ob from ht.blk HF.out.2.2 fun h => h)))
      clear ht
      rw [hfa, show opC fa = #[.int .i64 fa.k, .int .i64 fa.tk, .int .i64 fa.ta, .string fa.ts, .int .i64 fa.tn, .int .i64 fa.lk, .string fa.ln, .string fa.lt, .int .i64 fa.la, .int .i64 fa.sk, .string fa.sn, .int .i64 fa.sN] from rfl]
      refine hK.out _ _ ?_ (fun hHeld => ?_)
      · trivial
      clear hK K
      try simp only [Act.put, List.setIfInBounds_toArray, List.set_cons_zero, List.set_cons_succ]
      refine wpAnyH_ready (rs := [3]) (by kernel_rfl) (by simp) (AllReadyH.cons (by simp only [List.getElem?_toArray, List.getElem?_cons_succ, List.getElem?_cons_zero]; rfl) (fun K hK => ?_) AllReadyH.nil)
      rw [if_pos (by first | rfl | (simp [Region.wanted]; done) | kernel_rfl)]
      go_simp
      refine (few_any ob _).mono ?_
      rintro e y ⟨rfl, ht⟩
      replace HF := Lib.hid (And.intro (HF.out.1.trans ht) (And.intro (show OpBx y p oa from ht.blk HF.out.2.1 fun h => h) (show OpBx y q ob from ht.blk HF.out.2.2 fun h => h)))
      clear ht
      rw [hfb, show opC fb = #[.int .i64 fb.k, .int .i64 fb.tk, .int .i64 fb.ta, .string fb.ts, .int .i64 fb.tn, .int .i64 fb.lk, .string fb.ln, .string fb.lt, .int .i64 fb.la, .int .i64 fb.sk, .string fb.sn, .int .i64 fb.sN] from rfl]
      refine hK.out _ _ ?_ (fun hHeld => ?_)
      · trivial
      clear hK K
      try simp only [Act.put, List.setIfInBounds_toArray, List.set_cons_zero, List.set_cons_succ]
      refine wpAnyH_ready (rs := [4]) (by kernel_rfl) (by simp) (AllReadyH.cons (by simp only [List.getElem?_toArray, List.getElem?_cons_succ, List.getElem?_cons_zero]; rfl) (fun K hK => ?_) AllReadyH.nil)
      rw [if_pos (by first | rfl | (simp [Region.wanted]; done) | kernel_rfl)]
      obtain ⟨⟨c0, c1, c2, c3, c4, c5, c6, c7, c8, c9, c10, c11⟩, ⟨f0, f1, f2, f3, f4, f5, f6, f7, f8, f9, f10, f11⟩⟩ := HF.out.2.1.cells
      go_simp
      clear c0 c1 c2 c3 c4 c5 c6 c7 c8 c9 c10 c11 f0 f1 f2 f3 f4 f5 f6 f7 f8 f9 f10 f11
      replace HF := Lib.hid (And.intro (turn_put12 HF.out.1 (g := p) (.inr HPQ.out.1) (.int .i64 fa.k) (.int .i64 fa.tk) (.int .i64 fa.ta) (.string fa.ts) (.int .i64 fa.tn) (.int .i64 fa.lk) (.string fa.ln) (.string fa.lt) (.int .i64 fa.la) (.int .i64 fa.sk) (.string fa.sn) (.int .i64 fa.sN)) (And.intro (show OpBx _ p fa from blk_put12 (v0 := .int .i64 fa.k) (v1 := .int .i64 fa.tk) (v2 := .int .i64 fa.ta) (v3 := .string fa.ts) (v4 := .int .i64 fa.tn) (v5 := .int .i64 fa.lk) (v6 := .string fa.ln) (v7 := .string fa.lt) (v8 := .int .i64 fa.la) (v9 := .int .i64 fa.sk) (v10 := .string fa.sn) (v11 := .int .i64 fa.sN) HF.out.2.1) (show OpBx _ q ob from far12 HF.out.2.2 HPQ.out.2.2.symm (.int .i64 fa.k) (.int .i64 fa.tk) (.int .i64 fa.ta) (.string fa.ts) (.int .i64 fa.tn) (.int .i64 fa.lk) (.string fa.ln) (.string fa.lt) (.int .i64 fa.la) (.int .i64 fa.sk) (.string fa.sn) (.int .i64 fa.sN))))
      generalize (((((((((((y.setCell ⟨p, 0, none⟩ (.int .i64 fa.k)).setCell ⟨p, 1, none⟩ (.int .i64 fa.tk)).setCell ⟨p, 2, none⟩ (.int .i64 fa.ta)).setCell ⟨p, 3, none⟩ (.string fa.ts)).setCell ⟨p, 4, none⟩ (.int .i64 fa.tn)).setCell ⟨p, 5, none⟩ (.int .i64 fa.lk)).setCell ⟨p, 6, none⟩ (.string fa.ln)).setCell ⟨p, 7, none⟩ (.string fa.lt)).setCell ⟨p, 8, none⟩ (.int .i64 fa.la)).setCell ⟨p, 9, none⟩ (.int .i64 fa.sk)).setCell ⟨p, 10, none⟩ (.string fa.sn)).setCell ⟨p, 11, none⟩ (.int .i64 fa.sN) = y4 at HF ⊢
      refine hK.out _ _ ?_ (fun hHeld => ?_)
      · trivial
      clear hK K
      try simp only [Act.put, List.setIfInBounds_toArray, List.set_cons_zero, List.set_cons_succ]
      refine wpAnyH_ready (rs := [5]) (by kernel_rfl) (by simp) (AllReadyH.cons (by simp only [List.getElem?_toArray, List.getElem?_cons_succ, List.getElem?_cons_zero]; rfl) (fun K hK => ?_) AllReadyH.nil)
      rw [if_pos (by first | rfl | (simp [Region.wanted]; done) | kernel_rfl)]
      obtain ⟨⟨c0, c1, c2, c3, c4, c5, c6, c7, c8, c9, c10, c11⟩, ⟨f0, f1, f2, f3, f4, f5, f6, f7, f8, f9, f10, f11⟩⟩ := HF.out.2.2.cells
      go_simp
      clear c0 c1 c2 c3 c4 c5 c6 c7 c8 c9 c10 c11 f0 f1 f2 f3 f4 f5 f6 f7 f8 f9 f10 f11
      replace HF := Lib.hid (And.intro (turn_put12 HF.out.1 (g := q) (.inr HPQ.out.2.1) (.int .i64 fb.k) (.int .i64 fb.tk) (.int .i64 fb.ta) (.string fb.ts) (.int .i64 fb.tn) (.int .i64 fb.lk) (.string fb.ln) (.string fb.lt) (.int .i64 fb.la) (.int .i64 fb.sk) (.string fb.sn) (.int .i64 fb.sN)) (And.intro (show OpBx _ p fa from far12 HF.out.2.1 HPQ.out.2.2 (.int .i64 fb.k) (.int .i64 fb.tk) (.int .i64 fb.ta) (.string fb.ts) (.int .i64 fb.tn) (.int .i64 fb.lk) (.string fb.ln) (.string fb.lt) (.int .i64 fb.la) (.int .i64 fb.sk) (.string fb.sn) (.int .i64 fb.sN)) (show OpBx _ q fb from blk_put12 (v0 := .int .i64 fb.k) (v1 := .int .i64 fb.tk) (v2 := .int .i64 fb.ta) (v3 := .string fb.ts) (v4 := .int .i64 fb.tn) (v5 := .int .i64 fb.lk) (v6 := .string fb.ln) (v7 := .string fb.lt) (v8 := .int .i64 fb.la) (v9 := .int .i64 fb.sk) (v10 := .string fb.sn) (v11 := .int .i64 fb.sN) HF.out.2.2)))
      generalize (((((((((((y4.setCell ⟨q, 0, none⟩ (.int .i64 fb.k)).setCell ⟨q, 1, none⟩ (.int .i64 fb.tk)).setCell ⟨q, 2, none⟩ (.int .i64 fb.ta)).setCell ⟨q, 3, none⟩ (.string fb.ts)).setCell ⟨q, 4, none⟩ (.int .i64 fb.tn)).setCell ⟨q, 5, none⟩ (.int .i64 fb.lk)).setCell ⟨q, 6, none⟩ (.string fb.ln)).setCell ⟨q, 7, none⟩ (.string fb.lt)).setCell ⟨q, 8, none⟩ (.int .i64 fb.la)).setCell ⟨q, 9, none⟩ (.int .i64 fb.sk)).setCell ⟨q, 10, none⟩ (.string fb.sn)).setCell ⟨q, 11, none⟩ (.int .i64 fb.sN) = y5 at HF ⊢
      refine hK.out _ _ ?_ (fun hHeld => ?_)
      · trivial
      clear hK K
      try simp only [Act.put, List.setIfInBounds_toArray, List.set_cons_zero, List.set_cons_succ]
      refine wpAnyH_done (by kernel_rfl) ?_ _
      exact ⟨rfl, HF.out⟩
  refine AtN.use ?_
  intro w4 hF
  clear HF hfa hfb
  have HF := Lib.hid hF
  clear hF
  have hdd : (d != d) = false := by simp
  go_upto_region 5 with fail
  apply Code.wp_mono (Q := AtN _ (fun W => Turn Nope w W ∧ OpBx W p fa ∧ OpBx W q fb))
  rotate_left
  · skip
    replace HF := Lib.hid (And.intro (HF.out.1.trans (Turn.refl Nope _).drew) (And.intro (show OpBx w4.drew p fa from HF.out.2.1) (show OpBx w4.drew q fb from HF.out.2.2)))
    refine wp_region_held_drew (S := fun W => OpBx W p fa ∧ OpBx W q fb) (by kernel_rfl) HF.out.2 (fun hHeld => ?_)
    refine' wpAnyH_take (i := 0) (v := _) (by simp only [List.getElem?_toArray, List.getElem?_cons_succ, List.getElem?_cons_zero]; rfl) (by kernel_rfl) (by kernel_rfl) (by kernel_rfl) (by intro _ _ _ h; exact h) (Or.inl ⟨by rfl, ?hyb1⟩) hHeld ?restb1
    case hyb1 => (intro w hSw; obtain ⟨s1, s2⟩ := hSw; obtain ⟨⟨c0, c1, c2, c3, c4, c5, c6, c7, c8, c9, c10, c11⟩, -⟩ := s1.cells; obtain ⟨⟨d0, d1, d2, d3, d4, d5, d6, d7, d8, d9, d10, d11⟩, -⟩ := s2.cells; go_simp; try (with_reducible rfl))
    simp only [Act.put, List.setIfInBounds_toArray, List.set_cons_zero, List.set_cons_succ]
    refine' wpAnyH_take (i := 1) (v := _) (by simp only [List.getElem?_toArray, List.getElem?_cons_succ, List.getElem?_cons_zero]; rfl) (by kernel_rfl) (by kernel_rfl) (by kernel_rfl) (by intro _ _ _ h; exact h) (Or.inl ⟨by rfl, ?hyb2⟩) hHeld ?restb2
    case hyb2 => (intro w hSw; obtain ⟨s1, s2⟩ := hSw; obtain ⟨⟨c0, c1, c2, c3, c4, c5, c6, c7, c8, c9, c10, c11⟩, -⟩ := s1.cells; obtain ⟨⟨d0, d1, d2, d3, d4, d5, d6, d7, d8, d9, d10, d11⟩, -⟩ := s2.cells; go_simp; try (with_reducible rfl))
    simp only [Act.put, List.setIfInBounds_toArray, List.set_cons_zero, List.set_cons_succ]
    refine' wpAnyH_take (i := 3) (v := _) (by simp only [List.getElem?_toArray, List.getElem?_cons_succ, List.getElem?_cons_zero]; rfl) (by kernel_rfl) (by kernel_rfl) (by kernel_rfl) (by intro _ _ _ h; exact h) (Or.inl ⟨by rfl, ?hyb3⟩) hHeld ?restb3
    case hyb3 => (intro w hSw; obtain ⟨s1, s2⟩ := hSw; obtain ⟨⟨c0, c1, c2, c3, c4, c5, c6, c7, c8, c9, c10, c11⟩, -⟩ := s1.cells; obtain ⟨⟨d0, d1, d2, d3, d4, d5, d6, d7, d8, d9, d10, d11⟩, -⟩ := s2.cells; go_simp; try (with_reducible rfl))
    simp only [Act.put, List.setIfInBounds_toArray, List.set_cons_zero, List.set_cons_succ]
    refine' wpAnyH_take (i := 5) (v := _) (by simp only [List.getElem?_toArray, List.getElem?_cons_succ, List.getElem?_cons_zero]; rfl) (by kernel_rfl) (by kernel_rfl) (by kernel_rfl) (by intro _ _ _ h; exact h) (Or.inl ⟨by rfl, ?hyb4⟩) hHeld ?restb4
    case hyb4 => (intro w hSw; obtain ⟨s1, s2⟩ := hSw; obtain ⟨⟨c0, c1, c2, c3, c4, c5, c6, c7, c8, c9, c10, c11⟩, -⟩ := s1.cells; obtain ⟨⟨d0, d1, d2, d3, d4, d5, d6, d7, d8, d9, d10, d11⟩, -⟩ := s2.cells; go_simp; try (with_reducible rfl))
    simp only [Act.put, List.setIfInBounds_toArray, List.set_cons_zero, List.set_cons_succ]
    refine wpAnyH_ready (rs := [2]) (by kernel_rfl) (by simp) (AllReadyH.cons (by simp only [List.getElem?_toArray, List.getElem?_cons_succ, List.getElem?_cons_zero]; rfl) (fun K hK => ?_) AllReadyH.nil)
    rw [if_pos (by first | rfl | (simp [Region.wanted]; done) | kernel_rfl)]
    go_simp
    refine (oapart_any fa fb _).mono ?_
    rintro e y ⟨rfl, ht⟩
    rw [HOA.out.1]
    replace HF := Lib.hid (And.intro (HF.out.1.trans ht) (And.intro (show OpBx y p fa from ht.blk HF.out.2.1 fun h => h) (show OpBx y q fb from ht.blk HF.out.2.2 fun h => h)))
    clear ht
    refine hK.out _ _ ?_ (fun hHeld => ?_)
    · exact HF.out.2
    clear hK K
    try simp only [Act.put, List.setIfInBounds_toArray, List.set_cons_zero, List.set_cons_succ]
    refine wpAnyH_ready (rs := [4]) (by kernel_rfl) (by simp) (AllReadyH.cons (by simp only [List.getElem?_toArray, List.getElem?_cons_succ, List.getElem?_cons_zero]; rfl) (fun K hK => ?_) AllReadyH.nil)
    rw [if_pos (by first | rfl | (simp [Region.wanted]; done) | kernel_rfl)]
    go_simp
    refine (told_any fa _).mono ?_
    rintro e y ⟨rfl, ht⟩
    rw [show opC fa = #[.int .i64 fa.k, .int .i64 fa.tk, .int .i64 fa.ta, .string fa.ts, .int .i64 fa.tn, .int .i64 fa.lk, .string fa.ln, .string fa.lt, .int .i64 fa.la, .int .i64 fa.sk, .string fa.sn, .int .i64 fa.sN] from rfl]
    replace HF := Lib.hid (And.intro (HF.out.1.trans ht) (And.intro (show OpBx y p fa from ht.blk HF.out.2.1 fun h => h) (show OpBx y q fb from ht.blk HF.out.2.2 fun h => h)))
    clear ht
    refine hK.out _ _ ?_ (fun hHeld => ?_)
    · exact HF.out.2
    clear hK K
    try simp only [Act.put, List.setIfInBounds_toArray, List.set_cons_zero, List.set_cons_succ]
    refine wpAnyH_ready (rs := [6]) (by kernel_rfl) (by simp) (AllReadyH.cons (by simp only [List.getElem?_toArray, List.getElem?_cons_succ, List.getElem?_cons_zero]; rfl) (fun K hK => ?_) AllReadyH.nil)
    rw [if_pos (by first | rfl | (simp [Region.wanted]; done) | kernel_rfl)]
    go_simp
    refine (told_any fb _).mono ?_
    rintro e y ⟨rfl, ht⟩
    rw [show opC fb = #[.int .i64 fb.k, .int .i64 fb.tk, .int .i64 fb.ta, .string fb.ts, .int .i64 fb.tn, .int .i64 fb.lk, .string fb.ln, .string fb.lt, .int .i64 fb.la, .int .i64 fb.sk, .string fb.sn, .int .i64 fb.sN] from rfl]
    replace HF := Lib.hid (And.intro (HF.out.1.trans ht) (And.intro (show OpBx y p fa from ht.blk HF.out.2.1 fun h => h) (show OpBx y q fb from ht.blk HF.out.2.2 fun h => h)))
    clear ht
    refine hK.out _ _ ?_ (fun hHeld => ?_)
    · exact HF.out.2
    clear hK K
    try simp only [Act.put, List.setIfInBounds_toArray, List.set_cons_zero, List.set_cons_succ]
    refine wpAnyH_ready (rs := [7]) (by kernel_rfl) (by simp) (AllReadyH.cons (by simp only [List.getElem?_toArray, List.getElem?_cons_succ, List.getElem?_cons_zero]; rfl) (fun K hK => ?_) AllReadyH.nil)
    rw [if_pos (by first | rfl | (simp [Region.wanted]; done) | kernel_rfl)]
    go_simp
    refine (refapart_any fa fb _).mono ?_
    rintro e y ⟨rfl, ht⟩
    rw [HOA.out.1]
    replace HF := Lib.hid (And.intro (HF.out.1.trans ht) (And.intro (show OpBx y p fa from ht.blk HF.out.2.1 fun h => h) (show OpBx y q fb from ht.blk HF.out.2.2 fun h => h)))
    clear ht
    refine hK.out _ _ ?_ (fun hHeld => ?_)
    · exact HF.out.2
    clear hK K
    try simp only [Act.put, List.setIfInBounds_toArray, List.set_cons_zero, List.set_cons_succ]
    refine' wpAnyH_take (i := 8) (v := _) (by simp only [List.getElem?_toArray, List.getElem?_cons_succ, List.getElem?_cons_zero]; rfl) (by kernel_rfl) (by kernel_rfl) (by kernel_rfl) (by intro _ _ _ h; exact h) (Or.inl ⟨by rfl, ?hyb5⟩) hHeld ?restb5
    case hyb5 => (intro w hSw; (try dsimp only at hSw); go_simp; try (with_reducible rfl))
    simp only [Act.put, List.setIfInBounds_toArray, List.set_cons_zero, List.set_cons_succ]
    refine' wpAnyH_take (i := 9) (v := _) (by simp only [List.getElem?_toArray, List.getElem?_cons_succ, List.getElem?_cons_zero]; rfl) (by kernel_rfl) (by kernel_rfl) (by kernel_rfl) (by intro _ _ _ h; exact h) (Or.inl ⟨by rfl, ?hyb6⟩) hHeld ?restb6
    case hyb6 => (intro w hSw; (try dsimp only at hSw); go_simp; try (with_reducible rfl))
    simp only [Act.put, List.setIfInBounds_toArray, List.set_cons_zero, List.set_cons_succ]
    refine' wpAnyH_take (i := 10) (v := _) (by simp only [List.getElem?_toArray, List.getElem?_cons_succ, List.getElem?_cons_zero]; rfl) (by kernel_rfl) (by kernel_rfl) (by kernel_rfl) (by intro _ _ _ h; exact h) (Or.inl ⟨by rfl, ?hyb7⟩) hHeld ?restb7
    case hyb7 => (intro w hSw; obtain ⟨s1, s2⟩ := hSw; obtain ⟨⟨c0, c1, c2, c3, c4, c5, c6, c7, c8, c9, c10, c11⟩, -⟩ := s1.cells; obtain ⟨⟨d0, d1, d2, d3, d4, d5, d6, d7, d8, d9, d10, d11⟩, -⟩ := s2.cells; go_simp; try (with_reducible rfl))
    simp only [Act.put, List.setIfInBounds_toArray, List.set_cons_zero, List.set_cons_succ]
    refine' wpAnyH_take (i := 11) (v := _) (by simp only [List.getElem?_toArray, List.getElem?_cons_succ, List.getElem?_cons_zero]; rfl) (by kernel_rfl) (by kernel_rfl) (by kernel_rfl) (by intro _ _ _ h; exact h) (Or.inl ⟨by rfl, ?hyb8⟩) hHeld ?restb8
    case hyb8 => (intro w hSw; obtain ⟨s1, s2⟩ := hSw; obtain ⟨⟨c0, c1, c2, c3, c4, c5, c6, c7, c8, c9, c10, c11⟩, -⟩ := s1.cells; obtain ⟨⟨d0, d1, d2, d3, d4, d5, d6, d7, d8, d9, d10, d11⟩, -⟩ := s2.cells; go_simp; try (with_reducible rfl))
    simp only [Act.put, List.setIfInBounds_toArray, List.set_cons_zero, List.set_cons_succ]
    refine' wpAnyH_take (i := 13) (v := _) (by simp only [List.getElem?_toArray, List.getElem?_cons_succ, List.getElem?_cons_zero]; rfl) (by kernel_rfl) (by kernel_rfl) (by kernel_rfl) (by intro _ _ _ h; exact h) (Or.inl ⟨by rfl, ?hyb9⟩) hHeld ?restb9
    case hyb9 => (intro w hSw; obtain ⟨s1, s2⟩ := hSw; obtain ⟨⟨c0, c1, c2, c3, c4, c5, c6, c7, c8, c9, c10, c11⟩, -⟩ := s1.cells; obtain ⟨⟨d0, d1, d2, d3, d4, d5, d6, d7, d8, d9, d10, d11⟩, -⟩ := s2.cells; go_simp; try (with_reducible rfl))
    simp only [Act.put, List.setIfInBounds_toArray, List.set_cons_zero, List.set_cons_succ]
    refine' wpAnyH_take (i := 14) (v := _) (by simp only [List.getElem?_toArray, List.getElem?_cons_succ, List.getElem?_cons_zero]; rfl) (by kernel_rfl) (by kernel_rfl) (by kernel_rfl) (by intro _ _ _ h; exact h) (Or.inl ⟨by rfl, ?hyb10⟩) hHeld ?restb10
    case hyb10 => (intro w hSw; obtain ⟨s1, s2⟩ := hSw; obtain ⟨⟨c0, c1, c2, c3, c4, c5, c6, c7, c8, c9, c10, c11⟩, -⟩ := s1.cells; obtain ⟨⟨d0, d1, d2, d3, d4, d5, d6, d7, d8, d9, d10, d11⟩, -⟩ := s2.cells; go_simp; try (with_reducible rfl))
    simp only [Act.put, List.setIfInBounds_toArray, List.set_cons_zero, List.set_cons_succ]
    refine wpAnyH_ready (rs := [12]) (by kernel_rfl) (by simp) (AllReadyH.cons (by simp only [List.getElem?_toArray, List.getElem?_cons_succ, List.getElem?_cons_zero]; rfl) (fun K hK => ?_) AllReadyH.nil)
    rw [if_pos (by first | rfl | (simp [Region.wanted]; done) | kernel_rfl)]
    go_simp
    refine (oapart_any fa fb _).mono ?_
    rintro e y ⟨rfl, ht⟩
    rw [HOA.out.1]
    replace HF := Lib.hid (And.intro (HF.out.1.trans ht) (And.intro (show OpBx y p fa from ht.blk HF.out.2.1 fun h => h) (show OpBx y q fb from ht.blk HF.out.2.2 fun h => h)))
    clear ht
    refine hK.out _ _ ?_ (fun hHeld => ?_)
    · exact HF.out.2
    clear hK K
    try simp only [Act.put, List.setIfInBounds_toArray, List.set_cons_zero, List.set_cons_succ]
    refine wpAnyH_ready (rs := [15]) (by kernel_rfl) (by simp) (AllReadyH.cons (by simp only [List.getElem?_toArray, List.getElem?_cons_succ, List.getElem?_cons_zero]; rfl) (fun K hK => ?_) AllReadyH.nil)
    rw [if_pos (by first | rfl | (simp [Region.wanted]; done) | kernel_rfl)]
    go_simp
    refine (oapart_any fb fa _).mono ?_
    rintro e y ⟨rfl, ht⟩
    rw [HOA.out.2]
    replace HF := Lib.hid (And.intro (HF.out.1.trans ht) (And.intro (show OpBx y p fa from ht.blk HF.out.2.1 fun h => h) (show OpBx y q fb from ht.blk HF.out.2.2 fun h => h)))
    clear ht
    refine hK.out _ _ ?_ (fun hHeld => ?_)
    · exact HF.out.2
    clear hK K
    try simp only [Act.put, List.setIfInBounds_toArray, List.set_cons_zero, List.set_cons_succ]
    refine' wpAnyH_take (i := 16) (v := _) (by simp only [List.getElem?_toArray, List.getElem?_cons_succ, List.getElem?_cons_zero]; rfl) (by kernel_rfl) (by kernel_rfl) (by kernel_rfl) (by intro _ _ _ h; exact h) (Or.inl ⟨by rfl, ?hyb11⟩) hHeld ?restb11
    case hyb11 => (intro w hSw; (try dsimp only at hSw); go_simp; try (with_reducible rfl))
    simp only [Act.put, List.setIfInBounds_toArray, List.set_cons_zero, List.set_cons_succ]
    refine' wpAnyH_take (i := 17) (v := _) (by simp only [List.getElem?_toArray, List.getElem?_cons_succ, List.getElem?_cons_zero]; rfl) (by kernel_rfl) (by kernel_rfl) (by kernel_rfl) (by intro _ _ _ h; exact h) (Or.inl ⟨by rfl, ?hyb12⟩) hHeld ?restb12
    case hyb12 => (intro w hSw; (try dsimp only at hSw); go_simp; try (with_reducible rfl))
    simp only [Act.put, List.setIfInBounds_toArray, List.set_cons_zero, List.set_cons_succ]
    refine wpAnyH_done (by kernel_rfl) ?_ _
    exact ⟨rfl, HF.out⟩
  refine AtN.use ?_
  intro w5 hF
  clear HF hdd
  have HF := Lib.hid hF
  clear hF
  go_wp2_with fail
  refine (onewk k HK.out HM.out w5).mono ?_
  rintro e w6 ⟨b, m, rfl, hob, ht⟩
  have HQM : Hid (p ≠ m ∧ q ≠ m) := by have h1 := hob.lo.2; have h2 := blk_lt HF.out.2.1; have h3 := blk_lt HF.out.2.2; exact ⟨by omega, by omega⟩
  have HW0 : Hid (Ob w w6 b m (1 + 2 * 0) (PS.new k) ∧ Turn Nope w w6 ∧ OpBx w6 p fa ∧ OpBx w6 q fb) := ⟨hob.low HF.out.1.size, HF.out.1.trans ht, ht.blk HF.out.2.1 fun h => h, ht.blk HF.out.2.2 fun h => h⟩
  clear hob ht HF
  go_upto_region 9 with fail
  go_upto_block 0 with fail
  go_cut [10, 11] from 42 to 63 (fun v10 v11 wr => ∃ (c i : Nat) (P : PS), v10 = .int .i64 (i : Int) ∧ Hid (c ≤ 70 ∧ P.kind = (PS.new k).kind ∧ P.size ≤ i) ∧ Hid (Ob w wr b m c P ∧ Turn Nope w wr ∧ OpBx wr p fa ∧ OpBx wr q fb))
  case first =>
    go_wp2_with fail
    go_loopg [10, 11] 30 (fun kk v10 v11 wr => ∃ (i : Nat) (P : PS), v11 = .int .i64 (i : Int) ∧ v10 = .int .i64 (i : Int) ∧ Hid (kk + i = 30) ∧ Hid (P.kind = (PS.new k).kind ∧ P.size ≤ i) ∧ Hid (Ob w wr b m (1 + 2 * i) P ∧ Turn Nope w wr ∧ OpBx wr p fa ∧ OpBx wr q fb))
    case atStart => exact ⟨0, _, rfl, rfl, rfl, ⟨rfl, by rw [PS.size_new]; exact Nat.le_refl _⟩, HW0.out⟩
    case round =>
      obtain ⟨i, P, rfl, rfl, hk, HPK, HW1⟩ := hrel
      clear HW0
      have hw : wrap64 ((i : Int) + 1) = (i : Int) + 1 := IntWalk.wrap64_in _ ⟨by have := hk.out; omega, by have := hk.out; omega⟩
      have HWR := Lib.hid hw
      clear hw
      by_cases hlt : i < len
      · have b1 : decide ((i : Int) < (len : Int)) = true := by simp; omega
        have b1n : decide (i < len) = true := by simp; omega
        by_cases h10 : i < 30
        · have b2 : decide ((i : Int) < 30) = true := by simp; omega
          have b2n : decide (i < 30) = true := by simp; omega
          obtain ⟨ad, o, rfl, hsz, hc⟩ := HIN.out.cells hlt
          have HC := Lib.hid (hc.later HW1.out.2.1.nopeBelow)
          have HCLO := Lib.hid hc.lo
          have i0 : (0 : Int) ≤ (i : Int) := by omega
          have i1 : (i : Int) < (len : Int) := by omega
          have HI := Lib.hid h10
          clear hlt h10 hsz hc
          go_upto_region 12 with fail
          have hna := HM.out.na b
          have h1 := HM.out.md b
          have h2 := HM.out.ed
          refine wp_region_held_drew (S := fun W => Op12 W ad i o) (by kernel_rfl) (HC.out.later (Turn.refl Nope _).drew.nopeBelow) (fun hHeld => ?_)
          refine' wpAnyH_take (i := 0) (v := _) (by simp only [List.getElem?_toArray, List.getElem?_cons_succ, List.getElem?_cons_zero]; rfl) (by kernel_rfl) (by kernel_rfl) (by kernel_rfl) (by intro _ _ _ h; exact h) (Or.inl ⟨by rfl, ?hyk0⟩) hHeld ?restk0
          case hyk0 => (intro w hSw; (obtain ⟨s0, s1, s2, s3, s4, s5, s6, s7, s8, s9, s10, s11⟩ := hSw); go_simp; try (with_reducible rfl))
          simp only [Act.put, List.setIfInBounds_toArray, List.set_cons_zero, List.set_cons_succ]
          refine' wpAnyH_take (i := 1) (v := _) (by simp only [List.getElem?_toArray, List.getElem?_cons_succ, List.getElem?_cons_zero]; rfl) (by kernel_rfl) (by kernel_rfl) (by kernel_rfl) (by intro _ _ _ h; exact h) (Or.inl ⟨by rfl, ?hyk1⟩) hHeld ?restk1
          case hyk1 => (intro w hSw; (obtain ⟨s0, s1, s2, s3, s4, s5, s6, s7, s8, s9, s10, s11⟩ := hSw); go_simp; try (with_reducible rfl))
          simp only [Act.put, List.setIfInBounds_toArray, List.set_cons_zero, List.set_cons_succ]
          refine' wpAnyH_take (i := 2) (v := _) (by simp only [List.getElem?_toArray, List.getElem?_cons_succ, List.getElem?_cons_zero]; rfl) (by kernel_rfl) (by kernel_rfl) (by kernel_rfl) (by intro _ _ _ h; exact h) (Or.inl ⟨by rfl, ?hyk2⟩) hHeld ?restk2
          case hyk2 => (intro w hSw; (obtain ⟨s0, s1, s2, s3, s4, s5, s6, s7, s8, s9, s10, s11⟩ := hSw); go_simp; try (with_reducible rfl))
          simp only [Act.put, List.setIfInBounds_toArray, List.set_cons_zero, List.set_cons_succ]
          refine' wpAnyH_take (i := 3) (v := _) (by simp only [List.getElem?_toArray, List.getElem?_cons_succ, List.getElem?_cons_zero]; rfl) (by kernel_rfl) (by kernel_rfl) (by kernel_rfl) (by intro _ _ _ h; exact h) (Or.inl ⟨by rfl, ?hyk3⟩) hHeld ?restk3
          case hyk3 => (intro w hSw; (obtain ⟨s0, s1, s2, s3, s4, s5, s6, s7, s8, s9, s10, s11⟩ := hSw); go_simp; try (with_reducible rfl))
          simp only [Act.put, List.setIfInBounds_toArray, List.set_cons_zero, List.set_cons_succ]
          refine' wpAnyH_take (i := 4) (v := _) (by simp only [List.getElem?_toArray, List.getElem?_cons_succ, List.getElem?_cons_zero]; rfl) (by kernel_rfl) (by kernel_rfl) (by kernel_rfl) (by intro _ _ _ h; exact h) (Or.inl ⟨by rfl, ?hyk4⟩) hHeld ?restk4
          case hyk4 => (intro w hSw; (obtain ⟨s0, s1, s2, s3, s4, s5, s6, s7, s8, s9, s10, s11⟩ := hSw); go_simp; try (with_reducible rfl))
          simp only [Act.put, List.setIfInBounds_toArray, List.set_cons_zero, List.set_cons_succ]
          refine' wpAnyH_take (i := 6) (v := _) (by simp only [List.getElem?_toArray, List.getElem?_cons_succ, List.getElem?_cons_zero]; rfl) (by kernel_rfl) (by kernel_rfl) (by kernel_rfl) (by intro _ _ _ h; exact h) (Or.inl ⟨by rfl, ?hyk6⟩) hHeld ?restk6
          case hyk6 => (intro w hSw; (obtain ⟨s0, s1, s2, s3, s4, s5, s6, s7, s8, s9, s10, s11⟩ := hSw); go_simp; try (with_reducible rfl))
          simp only [Act.put, List.setIfInBounds_toArray, List.set_cons_zero, List.set_cons_succ]
          refine' wpAnyH_take (i := 7) (v := _) (by simp only [List.getElem?_toArray, List.getElem?_cons_succ, List.getElem?_cons_zero]; rfl) (by kernel_rfl) (by kernel_rfl) (by kernel_rfl) (by intro _ _ _ h; exact h) (Or.inl ⟨by rfl, ?hyk7⟩) hHeld ?restk7
          case hyk7 => (intro w hSw; (obtain ⟨s0, s1, s2, s3, s4, s5, s6, s7, s8, s9, s10, s11⟩ := hSw); go_simp; try (with_reducible rfl))
          simp only [Act.put, List.setIfInBounds_toArray, List.set_cons_zero, List.set_cons_succ]
          refine' wpAnyH_take (i := 8) (v := _) (by simp only [List.getElem?_toArray, List.getElem?_cons_succ, List.getElem?_cons_zero]; rfl) (by kernel_rfl) (by kernel_rfl) (by kernel_rfl) (by intro _ _ _ h; exact h) (Or.inl ⟨by rfl, ?hyk8⟩) hHeld ?restk8
          case hyk8 => (intro w hSw; (obtain ⟨s0, s1, s2, s3, s4, s5, s6, s7, s8, s9, s10, s11⟩ := hSw); go_simp; try (with_reducible rfl))
          simp only [Act.put, List.setIfInBounds_toArray, List.set_cons_zero, List.set_cons_succ]
          refine wpAnyH_ready (rs := [5]) (by kernel_rfl) (by simp) (AllReadyH.cons (by simp only [List.getElem?_toArray, List.getElem?_cons_succ, List.getElem?_cons_zero]; rfl) (fun K hK => ?_) AllReadyH.nil)
          rw [if_pos (by simp [Region.wanted])]
          go_simp
          refine (few_any o _).mono ?_
          rintro e y1 ⟨rfl, ht⟩
          have HF1 := Lib.hid (And.intro (HW1.out.1.nope (((Turn.refl _ _).drew).trans ht)) (And.intro (HW1.out.2.1.trans (((Turn.refl _ _).drew).trans ht)) (And.intro (HC.out.later ((((Turn.refl Nope _).drew).trans ht).nopeBelow)) (And.intro (show OpBx y1 p fa from (((Turn.refl Nope _).drew).trans ht).blk HW1.out.2.2.1 fun h => h) (show OpBx y1 q fb from (((Turn.refl Nope _).drew).trans ht).blk HW1.out.2.2.2 fun h => h)))))
          clear ht
          refine hK.out _ _ ?_ (fun hHeld => ?_)
          · exact HF1.out.2.2.1
          clear hK K
          try simp only [Act.put, List.setIfInBounds_toArray, List.set_cons_zero, List.set_cons_succ]
          refine wpAnyH_ready (rs := [9]) (by kernel_rfl) (by simp) (AllReadyH.cons (by simp only [List.getElem?_toArray, List.getElem?_cons_succ, List.getElem?_cons_zero]; rfl) (fun K hK => ?_) AllReadyH.nil)
          rw [if_pos (by simp [Region.wanted])]
          go_simp
          refine (mdo (HM.out.of (Q := P) HPK.out.1) HF1.out.1 (few o) (few_sz o) (by have := hk.out; omega)).mono ?_
          rintro e y2 ⟨rfl, hob, ht⟩
          have HF2 := Lib.hid (And.intro hob (And.intro (HF1.out.2.1.then ht fun j hj => .inr (by rw [show j = m from hj]; exact HF1.out.1.lo.2)) (And.intro (Op12.turn HF1.out.2.2.1 HCLO.out ht HF1.out.1.lo.2) (And.intro (show OpBx y2 p fa from ht.blk HF1.out.2.2.2.1 (fun e => HQM.out.1 e)) (show OpBx y2 q fb from ht.blk HF1.out.2.2.2.2 (fun e => HQM.out.2 e))))))
          clear hob ht
          refine hK.out _ _ ?_ (fun hHeld => ?_)
          · exact HF2.out.2.2.1
          clear hK K
          try simp only [Act.put, List.setIfInBounds_toArray, List.set_cons_zero, List.set_cons_succ]
          refine wpAnyH_done (by kernel_rfl) ?_ _
          clear hna h1 h2 i0 i1 b1 b1n b2 b2n
          have hw := HWR.out
          go_wp2_with fail
          go_roundg (30 - (i + 1))
          case measure => have := hk.out; have := HI.out; omega
          case rel => exact ⟨i + 1, _, by go_num, by go_num, by have := hk.out; have := HI.out; show _ = _; omega, ⟨by rw [PS.kind_nxt, HPK.out.1], Nat.le_trans (PS.size_nxt _ _) (by have := HPK.out.2; omega)⟩, HF2.out.1, HF2.out.2.1, HF2.out.2.2.2.1, HF2.out.2.2.2.2⟩
        · have b2 : decide ((i : Int) < 30) = false := by simp; omega
          have b2n : decide (i < 30) = false := by simp; omega
          have hc70 : 1 + 2 * i ≤ 70 := by have := hk.out; omega
          clear hlt h10
          go_wp2_with fail
          go_meet
          exact ⟨_, i, P, rfl, ⟨hc70, HPK.out⟩, HW1.out⟩
      · have b1 : decide ((i : Int) < (len : Int)) = false := by simp; omega
        have b1n : decide (i < len) = false := by simp; omega
        have hc70 : 1 + 2 * i ≤ 70 := by have := hk.out; omega
        clear hlt
        go_wp2_with fail
        go_meet
        exact ⟨_, i, P, rfl, ⟨hc70, HPK.out⟩, HW1.out⟩
  case rest =>
    obtain ⟨c, i, P, rfl, hn, HW1⟩ := hcut
    have HPK := Lib.hid hn.out.2
    have HC70 := Lib.hid hn.out.1
    clear HW0 hn
    have HMP := Lib.hid (HM.out.of (Q := P) HPK.out.1)
    have hfl := fld47
    have h1 := HM.out.mc b
    have h2 := HM.out.ec
    go_wp2_with fail
    refine (mclone HMP.out HW1.out.1).mono ?_
    rintro e w7 ⟨b1, m1, Q1, rfl, hob1, heq1, ht⟩
    have HW2 := Lib.hid (And.intro (HW1.out.1.nope ht) (And.intro (HW1.out.2.1.trans ht) (And.intro (show OpBx w7 p fa from ht.blk HW1.out.2.2.1 fun h => h) (show OpBx w7 q fb from ht.blk HW1.out.2.2.2 fun h => h))))
    have HY1 := Lib.hid (And.intro (hob1.low HW1.out.2.1.size) heq1)
    have HY1N : Hid (p ≠ m1 ∧ q ≠ m1) := by have h1 := hob1.lo.2; have h2 := blk_lt HW1.out.2.2.1; have h3 := blk_lt HW1.out.2.2.2; exact ⟨by omega, by omega⟩
    clear hob1 heq1 ht HW1
    go_wp2_with fail
    clear h1 h2
    refine (mclone HMP.out HW2.out.1).mono ?_
    rintro e w8 ⟨b2, m2, Q2, rfl, hob2, heq2, ht⟩
    have HT : Hid (Two w w8 p q fa fb b1 m1 40 Q1 b2 m2 40 Q2) := by
      have l1 := HY1.out.1.lt
      have l2 := hob2.lo
      have h2 := blk_lt HW2.out.2.2.1
      have h3 := blk_lt HW2.out.2.2.2
      exact ⟨HW2.out.2.1.trans ht, ht.blk HW2.out.2.2.1 fun h => h, ht.blk HW2.out.2.2.2 fun h => h, HY1.out.1.nope ht, hob2.low HW2.out.2.1.size, HY1N.out, ⟨by omega, by omega⟩, by omega, by omega, by omega⟩
    have HE : Hid (P.eqv Q1 ∧ P.eqv Q2) := ⟨HY1.out.2, heq2⟩
    have HM1 := Lib.hid (HMP.out.of (Q := Q1) HE.out.1.kind)
    have HM2 := Lib.hid (HMP.out.of (Q := Q2) HE.out.2.kind)
    clear hob2 heq2 ht HW2 HY1 HY1N
    by_cases h14 : 14 < i
    · have g1 : decide ((14 : Int) < (i : Int)) = true := by simp; omega
      have g1n : decide (14 < i) = true := by simp; omega
      clear h14
      go_wp2_with fail
      go_ret
      exact ⟨rfl, HT.out.tn.nopeBelow⟩
    · have g1 : decide ((14 : Int) < (i : Int)) = false := by simp; omega
      have g1n : decide (14 < i) = false := by simp; omega
      have HS14 : Hid (Q1.size ≤ 14) := by have h1 := HE.out.1.size; have h2 := HPK.out.2; exact (by omega : Q1.size ≤ 14)
      clear h14
      obtain ⟨⟨c0, c1, c2, c3, c4, c5, c6, c7, c8, c9, c10, c11⟩, -⟩ := HT.out.bp.cells
      obtain ⟨⟨e0, e1, e2, e3, e4, e5, e6, e7, e8, e9, e10, e11⟩, -⟩ := HT.out.bq.cells
      go_wp2_with fail
      clear g1 g1n c0 c1 c2 c3 c4 c5 c6 c7 c8 c9 c10 c11 e0 e1 e2 e3 e4 e5 e6 e7 e8 e9 e10 e11
      refine (oapart_any fa fb w8).mono ?_
      rintro e w9 ⟨rfl, ht⟩
      rw [HOA.out.1]
      have HT9 := Lib.hid (HT.out.nope ht)
      clear ht HT
      cases d with
      | false =>
        go_wp2_with fail
        go_ret
        exact ⟨rfl, HT9.out.tn.nopeBelow⟩
      | true =>
        have h1 := HM.out.md b1
        have h2 := HM.out.ed
        obtain ⟨⟨c0, c1, c2, c3, c4, c5, c6, c7, c8, c9, c10, c11⟩, -⟩ := HT9.out.bp.cells
        go_wp2_with fail
        clear c0 c1 c2 c3 c4 c5 c6 c7 c8 c9 c10 c11 h1 h2
        refine (mdo HM1.out HT9.out.x fa HZ.out.1 (by omega)).mono ?_
        rintro e w10 ⟨rfl, hob, ht⟩
        have HT10 := Lib.hid (HT9.out.onX ht hob)
        obtain ⟨E1, hE1⟩ : ∃ E, Q1.err fa = E := ⟨_, rfl⟩
        obtain ⟨G1, hG1⟩ : ∃ G, Q1.gone fa = G := ⟨_, rfl⟩
        unfold resV
        rw [hE1, hG1]
        have HE1 := Lib.hid hE1
        clear hob ht HT9 hE1 hG1
        by_cases hz1 : E1 = 0
        · subst hz1
          have h1 := HM.out.md b1
          have h2 := HM.out.ed
          obtain ⟨⟨c0, c1, c2, c3, c4, c5, c6, c7, c8, c9, c10, c11⟩, -⟩ := HT10.out.bq.cells
          go_wp2_with fail
          clear c0 c1 c2 c3 c4 c5 c6 c7 c8 c9 c10 c11 h1 h2
          refine (mdo (HM1.out.of (Q := Q1.nxt fa) (PS.kind_nxt _ _)) HT10.out.x fb HZ.out.2 (by omega)).mono ?_
          rintro e w11 ⟨rfl, hob, ht⟩
          have HT11 := Lib.hid (HT10.out.onX ht hob)
          obtain ⟨E2, hE2⟩ : ∃ E, (Q1.nxt fa).err fb = E := ⟨_, rfl⟩
          obtain ⟨G2, hG2⟩ : ∃ G, (Q1.nxt fa).gone fb = G := ⟨_, rfl⟩
          unfold resV
          rw [hE2, hG2]
          have HE2 := Lib.hid hE2
          have HOK := Lib.hid HT10.out.y.ok
          clear hob ht hE2 hG2
          by_cases hz2 : E2 = 0
          · subst hz2
            have HQQ : Hid (Q1.eqv Q2) := HE.out.1.symm.trans HE.out.2
            have HAP : Hid (Q2.err fb = 0 ∧ (Q2.nxt fb).err fa = 0 ∧ ((Q2.nxt fb).nxt fa).saved = ((Q1.nxt fa).nxt fb).saved) := by
              have e1 : Q2.err fa = 0 := by rw [HQQ.out.err]; exact HE1.out
              have e2 : (Q2.nxt fa).err fb = 0 := by rw [(HQQ.out.nxt fa).err]; exact HE2.out
              have e3 : Q2.size ≤ 14 := by rw [HQQ.out.size]; exact HS14.out
              have h := apartP HOK.out fa fb e1 e2 HOA.out.1 e3
              refine ⟨h.1, h.2.1, h.2.2.trans ?_⟩
              exact ((HQQ.out.nxt fa).nxt fb).saved
            clear HT10
            have h1 := HM.out.md b2
            have h2 := HM.out.ed
            obtain ⟨⟨c0, c1, c2, c3, c4, c5, c6, c7, c8, c9, c10, c11⟩, -⟩ := HT11.out.bq.cells
            go_wp2_with fail
            clear c0 c1 c2 c3 c4 c5 c6 c7 c8 c9 c10 c11
            refine (mdo HM2.out HT11.out.y fb HZ.out.2 (by omega)).mono ?_
            rintro e w12 ⟨rfl, hob, ht⟩
            have HT12 := Lib.hid (HT11.out.onY ht hob)
            obtain ⟨G3, hG3⟩ : ∃ G, Q2.gone fb = G := ⟨_, rfl⟩
            unfold resV
            rw [HAP.out.1, hG3]
            clear hob ht HT11 hG3
            obtain ⟨⟨c0, c1, c2, c3, c4, c5, c6, c7, c8, c9, c10, c11⟩, -⟩ := HT12.out.bp.cells
            go_wp2_with fail
            clear c0 c1 c2 c3 c4 c5 c6 c7 c8 c9 c10 c11 h1 h2
            refine (mdo (HM2.out.of (Q := Q2.nxt fb) (PS.kind_nxt _ _)) HT12.out.y fa HZ.out.1 (by omega)).mono ?_
            rintro e w13 ⟨rfl, hob, ht⟩
            have HT13 := Lib.hid (HT12.out.onY ht hob)
            obtain ⟨G4, hG4⟩ : ∃ G, (Q2.nxt fb).gone fa = G := ⟨_, rfl⟩
            unfold resV
            rw [HAP.out.2.1, hG4]
            clear hob ht HT12 hG4
            have h1 := HM.out.ms b1
            have h2 := HM.out.es
            have h3 := HM.out.ms b2
            go_wp2_with fail
            refine (msave (HM1.out.of (Q := (Q1.nxt fa).nxt fb) ((PS.kind_nxt _ _).trans (PS.kind_nxt _ _))) HT13.out.x).mono ?_
            rintro e w14 ⟨rfl, ht⟩
            have HT14 := Lib.hid (HT13.out.nope ht)
            obtain ⟨s1, hs1⟩ : ∃ s, ((Q1.nxt fa).nxt fb).saved = s := ⟨_, rfl⟩
            have HSV := Lib.hid (HAP.out.2.2.trans hs1)
            rw [hs1]
            clear ht HT13 hs1
            go_wp2_with fail
            refine (msave (HM2.out.of (Q := (Q2.nxt fb).nxt fa) ((PS.kind_nxt _ _).trans (PS.kind_nxt _ _))) HT14.out.y).mono ?_
            rintro e w15 ⟨rfl, ht⟩
            rw [HSV.out]
            have HT15 := Lib.hid (HT14.out.tn.trans ht)
            have s5 : (s1.toList == s1.toList) = true := by simp
            clear ht HT14 h1 h2 h3
            go_wp2_with fail
            go_ret
            exact ⟨rfl, HT15.out.nopeBelow⟩
          · have z1 : (E2 != 0) = true := by simpa using hz2
            clear hz2
            go_wp2_with fail
            go_ret
            exact ⟨rfl, HT11.out.tn.nopeBelow⟩
        · have z1 : (E1 != 0) = true := by simpa using hz1
          clear hz1
          go_wp2_with fail
          go_ret
          exact ⟨rfl, HT10.out.tn.nopeBelow⟩
end Go.Proofs.Yteggenihjhclkaa
