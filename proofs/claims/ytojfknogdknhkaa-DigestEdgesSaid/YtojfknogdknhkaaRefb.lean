/- The document's block: eight words behind 64 bytes. -/
import Derived.Test.YtojfknogdknhkaaRefa
import Derived.Test.YtojfknogdknhkaaSum
set_option maxRecDepth 16000
set_option linter.unusedVariables false
set_option linter.unusedSimpArgs false
namespace Go.Proofs.Ytojfknogdknhkaa
open Go.RowKit
variable {w w' : World}
theorem own_put {w : World} {base e g n cap : Nat} {xs : List Value} (h : w.ownsRow base e 1 (.slice (some ⟨g, 0, none⟩) n cap) n xs) (i : Nat) (hi : i < n) (u : Value) :
    (w.setCell ⟨g, i, none⟩ u).ownsRow base e 1 (.slice (some ⟨g, 0, none⟩) n cap) n (xs.set i u) := by
  refine ⟨by rw [List.length_set]; exact h.1, ?_⟩
  rcases h.2 with ⟨h0, _⟩ | ⟨g', cap', cur, hv, hbg, hg, hnc, hcm, hcs, htake⟩
  · cases h0
  · injection hv with hA hn' hcap
    injection hA with hA
    injection hA with hA
    subst hA
    subst hcap
    refine .inr ⟨g, cap, cur.setIfInBounds i u, rfl, hbg, blk_set hg i u, hnc, hcm, by rw [Array.size_setIfInBounds]; exact hcs, ?_⟩
    rw [Array.toList_setIfInBounds, List.take_set, htake]
theorem row_frozen {w : World} {base e n g cap : Nat} {xs : List Value} (h : w.ownsRow base e 1 (.slice (some ⟨g, 0, none⟩) n cap) n xs) (i : Nat) : w.frozen? ⟨g, i, none⟩ = false := by
  rcases h.2 with ⟨h0, _⟩ | ⟨g', cap', cur, hv, hbg, hg, _⟩
  · cases h0
  · injection hv with hA hn' hcap
    injection hA with hA
    injection hA with hA
    subst hA
    exact blk_frozen hg i
theorem row_cells8 {w : World} {base e g cap : Nat} {s : St} (h : w.ownsRow base e 1 (.slice (some ⟨g, 0, none⟩) 8 cap) 8 (u32s (stL s))) :
    w.cell? ⟨g, 0, none⟩ = some (.int .u32 s.a) ∧ w.cell? ⟨g, 1, none⟩ = some (.int .u32 s.b) ∧ w.cell? ⟨g, 2, none⟩ = some (.int .u32 s.c) ∧ w.cell? ⟨g, 3, none⟩ = some (.int .u32 s.d) ∧ w.cell? ⟨g, 4, none⟩ = some (.int .u32 s.e) ∧ w.cell? ⟨g, 5, none⟩ = some (.int .u32 s.f) ∧ w.cell? ⟨g, 6, none⟩ = some (.int .u32 s.g) ∧ w.cell? ⟨g, 7, none⟩ = some (.int .u32 s.h) :=
  ⟨row_at h rfl, row_at h rfl, row_at h rfl, row_at h rfl, row_at h rfl, row_at h rfl, row_at h rfl, row_at h rfl⟩
structure BlkW (w wr : World) (g cap bv : Nat) (s t : St) (kv wv tv : Value) (ws : List Int) : Prop where
  rk : wr.ownsRow w.heap.size 39 1 kv 64 (u32s keysP)
  rws : wr.ownsRow w.heap.size 39 1 wv 64 (u32s ws)
  rv : wr.ownsRow bv 39 1 (.slice (some ⟨g, 0, none⟩) 8 cap) 8 (u32s (stL s))
  rt : wr.ownsRow w.heap.size 39 1 tv 8 (u32s (stL t))
  tn : Turn Nope w wr
theorem BlkW.nope {w wr wr' : World} {g cap bv : Nat} {s t : St} {kv wv tv : Value} {ws : List Int} (h : BlkW w wr g cap bv s t kv wv tv ws) (ht : Turn Nope wr wr') : BlkW w wr' g cap bv s t kv wv tv ws :=
  ⟨own_nope h.rk ht, own_nope h.rws ht, own_nope h.rv ht, own_nope h.rt ht, h.tn.trans ht⟩
theorem blk_start {w w2 w6 : World} {g cap bv g1 cap1 : Nat} {s : St} {kv wv : Value} {ws : List Int} {o : Obj}
    (h : w2.ownsRow w.heap.size 39 1 kv 64 (u32s keysP) ∧ w2.ownsRow w.heap.size 39 1 wv 64 (u32s ws) ∧ w2.ownsRow bv 39 1 (.slice (some ⟨g, 0, none⟩) 8 cap) 8 (u32s (stL s)) ∧ Turn Nope w w2)
    (hown : w6.ownsRow w.heap.size 39 1 (.slice (some ⟨g1, 0, none⟩) (0 + 8) cap1) (0 + 8) ([] ++ u32s (stL s))) (hgr : (w2.alloc o).grownBy w6 (Value.ownBlock (.slice (some ⟨w2.heap.size, 0, none⟩) 0 0))) :
    BlkW w w6 g cap bv s s kv wv (.slice (some ⟨g1, 0, none⟩) 8 cap1) ws := by
  have keep : ∀ (base n : Nat) (v : Value) (xs : List Value), w2.ownsRow base 39 1 v n xs → w6.ownsRow base 39 1 v n xs := fun base n v xs h =>
    own_grown (own_nope h ((Turn.refl Nope w2).alloc o)) hgr fun k hk he => by
      have h1 := (h.lt k hk).2
      have h2 : w2.heap.size = k := by simpa [Value.ownBlock] using he
      omega
  exact ⟨keep _ _ _ _ h.1, keep _ _ _ _ h.2.1, keep _ _ _ _ h.2.2.1, by simpa using hown, (h.2.2.2.alloc o).grown hgr fun k hk => .inr (by
    have h2 : w2.heap.size = k := by simpa [Value.ownBlock] using hk
    have := h.2.2.2.size
    omega)⟩
theorem round_E {t : St} {ki wi X Y : Int}
    (hX : ((t.h + bits .xor .u32 (bits .and .u32 t.e t.f) (bits .and .u32 (bits .xor .u32 (if IntKind.u32.signed = true then -1 else IntKind.u32.max) t.e) t.g) + ki + wi) % 4294967296 + bits .xor .u32 (bits .xor .u32 (rtT 6 t.e) (rtT 11 t.e)) (rtT 25 t.e)) % 4294967296 = X)
    (hY : (bits .xor .u32 (bits .xor .u32 (bits .and .u32 t.a t.b) (bits .and .u32 t.a t.c)) (bits .and .u32 t.b t.c) + bits .xor .u32 (bits .xor .u32 (rtT 2 t.a) (rtT 13 t.a)) (rtT 22 t.a)) % 4294967296 = Y) :
    roundP t ki wi = ⟨(X + Y) % 4294967296, t.a, t.b, t.c, (t.d + X) % 4294967296, t.e, t.f, t.g⟩ := by
  rw [show bits .xor .u32 (bits .and .u32 t.e t.f) (bits .and .u32 (bits .xor .u32 (if IntKind.u32.signed = true then -1 else IntKind.u32.max) t.e) t.g) = chI t.e t.f t.g from rfl, show bits .xor .u32 (bits .xor .u32 (rtT 6 t.e) (rtT 11 t.e)) (rtT 25 t.e) = bigE t.e from rfl] at hX
  rw [show bits .xor .u32 (bits .xor .u32 (bits .and .u32 t.a t.b) (bits .and .u32 t.a t.c)) (bits .and .u32 t.b t.c) = majI t.a t.b t.c from rfl, show bits .xor .u32 (bits .xor .u32 (rtT 2 t.a) (rtT 13 t.a)) (rtT 22 t.a) = bigA t.a from rfl] at hY
  unfold roundP ad2
  generalize chI t.e t.f t.g = ch at *
  generalize bigE t.e = be at *
  generalize majI t.a t.b t.c = mj at *
  generalize bigA t.a = ba at *
  subst hX
  subst hY
  simp only []
  congr 1 <;> omega
/-- Sums so far. -/
def sumsL (s t : St) (i : Nat) : List Int := (List.range 8).map fun j => if j < i then ad2 ((stL s).getD j 0) ((stL t).getD j 0) else (stL t).getD j 0
theorem sumsL_0 (s t : St) : sumsL s t 0 = stL t := rfl
theorem sumsL_8 (s t : St) : sumsL s t 8 = stL (sumSt s t) := rfl
theorem sumsL_at (s t : St) (i j : Nat) (hj : j < 8) : (u32s (sumsL s t i))[j]? = some (.int .u32 (if j < i then ad2 ((stL s).getD j 0) ((stL t).getD j 0) else (stL t).getD j 0)) := by
  unfold u32s sumsL
  simp [hj]
theorem sumsL_set (s t : St) (i : Nat) (hi : i < 8) : (u32s (sumsL s t i)).set i (.int .u32 (ad2 ((stL s).getD i 0) ((stL t).getD i 0))) = u32s (sumsL s t (i + 1)) := by
  apply List.ext_getElem?
  intro j
  by_cases hj : j < 8
  · rw [List.getElem?_set, sumsL_at s t (i + 1) j hj, sumsL_at s t i j hj]
    by_cases hij : i = j
    · subst hij
      rw [if_pos rfl, if_pos (by simp [u32s, sumsL]; exact hi), if_pos (by omega)]
    · rw [if_neg hij]
      by_cases h1 : j < i
      · rw [if_pos h1, if_pos (by omega)]
      · rw [if_neg h1, if_neg (by omega)]
  · rw [List.getElem?_eq_none (by simp [u32s, sumsL]; omega), List.getElem?_eq_none (by simp [u32s, sumsL]; omega)]
structure SumW (w wr : World) (g cap bv gt ct : Nat) (s t : St) (i : Nat) : Prop where
  rv : wr.ownsRow bv 39 1 (.slice (some ⟨g, 0, none⟩) 8 cap) 8 (u32s (stL s))
  rt : wr.ownsRow w.heap.size 39 1 (.slice (some ⟨gt, 0, none⟩) 8 ct) 8 (u32s (sumsL s t i))
  tn : Turn Nope w wr
  ne : g ≠ gt ∧ w.heap.size ≤ gt
theorem SumW.put {w wr : World} {g cap bv gt ct : Nat} {s t : St} {i : Nat} (h : SumW w wr g cap bv gt ct s t i) (hi : i < 8) {x : Int} (hx : x = ad2 ((stL s).getD i 0) ((stL t).getD i 0)) :
    SumW w (wr.setCell ⟨gt, i, none⟩ (.int .u32 x)) g cap bv gt ct s t (i + 1) := by
  subst hx
  refine ⟨ownsRow_setCell_other h.rv (by simp [Value.ownBlock]; exact h.ne.1) _, ?_, h.tn.set_new h.ne.2 _, h.ne⟩
  have := own_put h.rt i hi (.int .u32 (ad2 ((stL s).getD i 0) ((stL t).getD i 0)))
  rw [sumsL_set s t i hi] at this
  exact this
theorem SumW.drew {w wr : World} {g cap bv gt ct : Nat} {s t : St} {i : Nat} (h : SumW w wr g cap bv gt ct s t i) : SumW w wr.drew g cap bv gt ct s t i :=
  ⟨own_nope h.rv (Turn.refl _ _).drew, own_nope h.rt (Turn.refl _ _).drew, h.tn.drew, h.ne⟩
set_option maxHeartbeats 8000000 in
theorem block_any (s : St) (hs : WSt s) (b : ByteArray) (hb : 64 ≤ b.size) (hmx : b.size ≤ 9223372036854775807) (bv g cap : Nat) (w : World) (hv : w.ownsRow bv 39 1 (.slice (some ⟨g, 0, none⟩) 8 cap) 8 (u32s (stL s))) :
    Calls Try.prog 16 #[.slice (some ⟨g, 0, none⟩) 8 cap, .string b] w fun e w' => ∃ g' cap', e = .returned (.slice (some ⟨g', 0, none⟩) 8 cap') ∧ w'.ownsRow w.heap.size 39 1 (.slice (some ⟨g', 0, none⟩) 8 cap') 8 (u32s (stL (mixP s b.data.toList))) ∧ Turn Nope w w' := by
  have HS := Lib.hid hs
  clear hs
  obtain ⟨i39, hi39, hz39, hs39, hb39⟩ := info_parts Try.info39
  have I39 := Lib.hid (And.intro hi39 (And.intro hz39 (And.intro hs39 hb39)))
  clear hi39 hz39 hs39 hb39
  obtain ⟨ws, hws⟩ : ∃ ws, wordsP b.data.toList = ws := ⟨_, rfl⟩
  have hwl : ws.length = 64 := by rw [← hws]; unfold wordsP; rw [growW_len]; simp [first16]
  have HWL := Lib.hid hwl
  clear hwl
  obtain ⟨R, hR⟩ : ∃ R, mixP s b.data.toList = R := ⟨_, rfl⟩
  rw [hR]
  have HRS : Hid (R = sumSt s (roundsP s (keysP.zip ws))) := by rw [← hR, ← hws]; rfl
  clear hR
  have HV := Lib.hid hv
  have HGL := Lib.hid (hv.lt g rfl).2
  clear hv
  go_enter Try.func16, Try.ntmps16
  go_wp2_with fail
  refine (keys_any _).mono ?_
  rintro e w1 ⟨vk, rfl, hk, ht1⟩
  have HK := Lib.hid (And.intro hk ht1)
  clear hk ht1
  go_wp2_with fail
  refine (spread_any b hb hmx _).mono ?_
  rintro e w2 ⟨vw, rfl, hw, ht2⟩
  rw [hws] at hw
  obtain ⟨hk, ht1⟩ := HK.out
  have HB0 : Hid (w2.ownsRow w.heap.size 39 1 vk 64 (u32s keysP) ∧ w2.ownsRow w.heap.size 39 1 vw 64 (u32s ws) ∧ w2.ownsRow bv 39 1 (.slice (some ⟨g, 0, none⟩) 8 cap) 8 (u32s (stL s)) ∧ Turn Nope w w2) :=
    ⟨own_nope hk ht2, own_lower hw ht1.size, own_nope (own_nope HV.out ht1) ht2, ht1.trans ht2⟩
  obtain ⟨kb, c1, rfl, -⟩ := row_reads hk (by omega)
  obtain ⟨wb, c2, rfl, -⟩ := row_reads hw (by omega)
  clear hk ht1 hw ht2 HK hws hb hmx
  go_wp2_with (at_builtin; go_loud (refine wpList_append_lies _ rfl _ _ _ rfl w.heap.size 39 i39 _ 1 4 Try.underlying40 I39.out.1 I39.out.2.1 I39.out.2.2.1 I39.out.2.2.2 rfl (by omega) (.slice (some ⟨w2.heap.size, 0, none⟩) 0 0) 0 [] rfl ⟨rfl, .inr ⟨w2.heap.size, 0, #[], rfl, HB0.out.2.2.2.size, blk_new _ _, by omega, by decide, by simp, rfl⟩⟩ ⟨g, 0, none⟩ 8 cap (u32s (stL s)) rfl rfl (fun j u hu => by have := row_at (own_nope HB0.out.2.2.1 ((Turn.refl Nope w2).alloc (.cells #[] 39))) hu; simpa [Addr.add_lit] using this) (by intro u hu; simp [u32s] at hu; obtain ⟨x, _, rfl⟩ := hu; rfl) (by omega) (by decide) (by omega) (Nat.le_trans HB0.out.2.2.2.size (by simp)) (w2.heap.size + 1) (by simp) ?_; intro g1 cap1 w6 hown hgr hat hlt2; have HO6 : Hid (BlkW w w6 g cap bv s s (.slice (some ⟨kb, 0, none⟩) 64 c1) (.slice (some ⟨wb, 0, none⟩) 64 c2) (.slice (some ⟨g1, 0, none⟩) 8 cap1) ws) := blk_start HB0.out hown hgr; clear hown hgr hat hlt2))
  clear HB0
  go_loopg [7, 8] 64 (fun n v7 v8 wr => ∃ (i gt ct : Nat), v8 = .int .i64 (i : Int) ∧ v7 = .slice (some ⟨gt, 0, none⟩) 8 ct ∧ Hid (n + i = 64) ∧ Hid (BlkW w wr g cap bv s (roundsP s ((keysP.zip ws).take i)) (.slice (some ⟨kb, 0, none⟩) 64 c1) (.slice (some ⟨wb, 0, none⟩) 64 c2) (.slice (some ⟨gt, 0, none⟩) 8 ct) ws))
  case atStart => exact ⟨0, g1, cap1, rfl, rfl, rfl, HO6.out⟩
  case round =>
    obtain ⟨i, gt, ct, rfl, rfl, hn, hM⟩ := hrel
    clear HO6
    by_cases hlt : i < 64
    · have b1 : decide ((i : Int) < 64) = true := by simp; omega
      have b1n : decide (i < 64) = true := by simp; omega
      have j0 : (0 : Int) ≤ (i : Int) := by omega
      have j1 : (i : Int) < 64 := by omega
      have HW : Hid (wrap64 ((i : Int) + 1) = (i : Int) + 1) := IntWalk.wrap64_in _ ⟨by omega, by omega⟩
      have hzw : (keysP.zip ws)[i]? = some (keysP.getD i 0, ws.getD i 0) := by
        have h1 : i < keysP.length := hlt
        have h2 : i < ws.length := by rw [HWL.out]; exact hlt
        rw [List.getElem?_zip_eq_some, List.getD_eq_getElem?_getD, List.getD_eq_getElem?_getD, List.getElem?_eq_getElem h1, List.getElem?_eq_getElem h2]
        exact ⟨rfl, rfl⟩
      have hadd := roundsP_add s _ i _ hzw
      have ck : wr.cell? ⟨kb, i, none⟩ = some (.int .u32 (keysP.getD i 0)) := row_at hM.out.rk (u32s_at hlt)
      have cw : wr.cell? ⟨wb, i, none⟩ = some (.int .u32 (ws.getD i 0)) := row_at hM.out.rws (u32s_at (by rw [HWL.out]; exact hlt))
      obtain ⟨ki, hki⟩ : ∃ x, keysP.getD i 0 = x := ⟨_, rfl⟩
      obtain ⟨wi, hwi⟩ : ∃ x, ws.getD i 0 = x := ⟨_, rfl⟩
      have hWT := roundsP_w ((keysP.zip ws).take i) HS.out
      rw [hki] at hadd ck
      rw [hwi] at hadd cw
      obtain ⟨t, ht⟩ : ∃ t, roundsP s ((keysP.zip ws).take i) = t := ⟨_, rfl⟩
      rw [ht] at hM hadd hWT
      have HADD := Lib.hid hadd
      have HWT := Lib.hid hWT
      clear ht hki hwi hzw hadd hWT
      obtain ⟨e0, e1, e2, e3, e4, e5, e6, e7⟩ := row_cells8 hM.out.rt
      have HC : Hid (∀ k n, GoodT k → Calls Try.prog 25 #[.int .u32 t.e, .int .i64 k] (wr.drewN n) fun e w' => e = .returned (.int .u32 (rtT k t.e)) ∧ ∃ m, w' = (wr.drewN n).drewN m) := fun k n hk => turn_T k _ hk HWT.out.e _
      go_wp2_with fail
      go_quiet ((go_at_call 25; exact Calls.quiet_of (HC.out _ _ (by unfold GoodT; decide))))
      obtain ⟨X, hX⟩ : ∃ X, ((t.h + bits .xor .u32 (bits .and .u32 t.e t.f) (bits .and .u32 (bits .xor .u32 (if IntKind.u32.signed = true then -1 else IntKind.u32.max) t.e) t.g) + ki + wi) % 4294967296 + bits .xor .u32 (bits .xor .u32 (rtT 6 t.e) (rtT 11 t.e)) (rtT 25 t.e)) % 4294967296 = X := ⟨_, rfl⟩
      rw [hX]
      have HX := Lib.hid hX
      have HM3 : Hid (BlkW w (wr.drewN nq) g cap bv s t (.slice (some ⟨kb, 0, none⟩) 64 c1) (.slice (some ⟨wb, 0, none⟩) 64 c2) (.slice (some ⟨gt, 0, none⟩) 8 ct) ws) := hM.out.nope ((Turn.refl _ _).drewN _)
      clear hX ck cw hM e0 e1 e2 e3 e4 e5 e6 e7 HC
      generalize wr.drewN nq = w3 at HM3 ⊢
      obtain ⟨e0, e1, e2, e3, e4, e5, e6, e7⟩ := row_cells8 HM3.out.rt
      have HC : Hid (∀ k n, GoodT k → Calls Try.prog 25 #[.int .u32 t.a, .int .i64 k] (w3.drewN n) fun e w' => e = .returned (.int .u32 (rtT k t.a)) ∧ ∃ m, w' = (w3.drewN n).drewN m) := fun k n hk => turn_T k _ hk HWT.out.a _
      go_wp2_with fail
      go_quiet ((go_at_call 25; exact Calls.quiet_of (HC.out _ _ (by unfold GoodT; decide))))
      obtain ⟨Y, hY⟩ : ∃ Y, (bits .xor .u32 (bits .xor .u32 (bits .and .u32 t.a t.b) (bits .and .u32 t.a t.c)) (bits .and .u32 t.b t.c) + bits .xor .u32 (bits .xor .u32 (rtT 2 t.a) (rtT 13 t.a)) (rtT 22 t.a)) % 4294967296 = Y := ⟨_, rfl⟩
      rw [hY]
      have HY := Lib.hid hY
      have HM4 : Hid (BlkW w (w3.drewN nq) g cap bv s t (.slice (some ⟨kb, 0, none⟩) 64 c1) (.slice (some ⟨wb, 0, none⟩) 64 c2) (.slice (some ⟨gt, 0, none⟩) 8 ct) ws) := HM3.out.nope ((Turn.refl _ _).drewN _)
      clear hY HM3 e0 e1 e2 e3 e4 e5 e6 e7 HC
      generalize w3.drewN nq = w4 at HM4 ⊢
      obtain ⟨e0, e1, e2, e3, e4, e5, e6, e7⟩ := row_cells8 HM4.out.rt
      go_wp2_with fail
      refine wp_region_held_drew (S := fun W => W.cell? ⟨gt, 1, none⟩ = some (.int .u32 t.b) ∧ W.cell? ⟨gt, 2, none⟩ = some (.int .u32 t.c) ∧ W.cell? ⟨gt, 3, none⟩ = some (.int .u32 t.d) ∧ W.cell? ⟨gt, 5, none⟩ = some (.int .u32 t.f) ∧ W.cell? ⟨gt, 6, none⟩ = some (.int .u32 t.g)) (by kernel_rfl) ⟨e1, e2, e3, e5, e6⟩ (fun hHeld => ?_)
      refine' wpAnyH_take (i := 0) (v := _) (by simp only [List.getElem?_toArray, List.getElem?_cons_succ, List.getElem?_cons_zero]; rfl) (by kernel_rfl) (by kernel_rfl) (by kernel_rfl) (by intro _ _ _ h; exact h) (Or.inl ⟨by rfl, ?hya0⟩) hHeld ?resta0
      case hya0 => (intro w hSw; (try dsimp only at hSw); go_simp; try (with_reducible rfl))
      simp only [Act.put, List.setIfInBounds_toArray, List.set_cons_zero, List.set_cons_succ]
      refine' wpAnyH_take (i := 1) (v := _) (by simp only [List.getElem?_toArray, List.getElem?_cons_succ, List.getElem?_cons_zero]; rfl) (by kernel_rfl) (by kernel_rfl) (by kernel_rfl) (by intro _ _ _ h; exact h) (Or.inl ⟨by rfl, ?hya1⟩) hHeld ?resta1
      case hya1 => (intro w hSw; (try dsimp only at hSw); go_simp; try (with_reducible rfl))
      simp only [Act.put, List.setIfInBounds_toArray, List.set_cons_zero, List.set_cons_succ]
      refine' wpAnyH_take (i := 2) (v := _) (by simp only [List.getElem?_toArray, List.getElem?_cons_succ, List.getElem?_cons_zero]; rfl) (by kernel_rfl) (by kernel_rfl) (by kernel_rfl) (by intro _ _ _ h; exact h) (Or.inl ⟨by rfl, ?hya2⟩) hHeld ?resta2
      case hya2 => (intro w hSw; (try dsimp only at hSw); go_simp; try (with_reducible rfl))
      simp only [Act.put, List.setIfInBounds_toArray, List.set_cons_zero, List.set_cons_succ]
      refine' wpAnyH_take (i := 3) (v := _) (by simp only [List.getElem?_toArray, List.getElem?_cons_succ, List.getElem?_cons_zero]; rfl) (by kernel_rfl) (by kernel_rfl) (by kernel_rfl) (by intro _ _ _ h; exact h) (Or.inl ⟨by rfl, ?hya3⟩) hHeld ?resta3
      case hya3 => (intro w hSw; (try dsimp only at hSw); go_simp; try (with_reducible rfl))
      simp only [Act.put, List.setIfInBounds_toArray, List.set_cons_zero, List.set_cons_succ]
      refine' wpAnyH_take (i := 4) (v := _) (by simp only [List.getElem?_toArray, List.getElem?_cons_succ, List.getElem?_cons_zero]; rfl) (by kernel_rfl) (by kernel_rfl) (by kernel_rfl) (by intro _ _ _ h; exact h) (Or.inl ⟨by rfl, ?hya4⟩) hHeld ?resta4
      case hya4 => (intro w hSw; (try dsimp only at hSw); go_simp; try (with_reducible rfl))
      simp only [Act.put, List.setIfInBounds_toArray, List.set_cons_zero, List.set_cons_succ]
      refine' wpAnyH_take (i := 5) (v := _) (by simp only [List.getElem?_toArray, List.getElem?_cons_succ, List.getElem?_cons_zero]; rfl) (by kernel_rfl) (by kernel_rfl) (by kernel_rfl) (by intro _ _ _ h; exact h) (Or.inl ⟨by rfl, ?hya5⟩) hHeld ?resta5
      case hya5 => (intro w hSw; (try dsimp only at hSw); go_simp; try (with_reducible rfl))
      simp only [Act.put, List.setIfInBounds_toArray, List.set_cons_zero, List.set_cons_succ]
      refine' wpAnyH_take (i := 6) (v := _) (by simp only [List.getElem?_toArray, List.getElem?_cons_succ, List.getElem?_cons_zero]; rfl) (by kernel_rfl) (by kernel_rfl) (by kernel_rfl) (by intro _ _ _ h; exact h) (Or.inl ⟨by rfl, ?hya6⟩) hHeld ?resta6
      case hya6 => (intro w hSw; (try dsimp only at hSw); go_simp; try (with_reducible rfl))
      simp only [Act.put, List.setIfInBounds_toArray, List.set_cons_zero, List.set_cons_succ]
      refine' wpAnyH_take (i := 7) (v := _) (by simp only [List.getElem?_toArray, List.getElem?_cons_succ, List.getElem?_cons_zero]; rfl) (by kernel_rfl) (by kernel_rfl) (by kernel_rfl) (by intro _ _ _ h; exact h) (Or.inl ⟨by rfl, ?hya7⟩) hHeld ?resta7
      case hya7 => (intro w hSw; (try dsimp only at hSw); go_simp; try (with_reducible rfl))
      simp only [Act.put, List.setIfInBounds_toArray, List.set_cons_zero, List.set_cons_succ]
      refine' wpAnyH_take (i := 8) (v := _) (by simp only [List.getElem?_toArray, List.getElem?_cons_succ, List.getElem?_cons_zero]; rfl) (by kernel_rfl) (by kernel_rfl) (by kernel_rfl) (by intro _ _ _ h; exact h) (Or.inl ⟨by rfl, ?hya8⟩) hHeld ?resta8
      case hya8 => (intro w hSw; (try dsimp only at hSw); go_simp; try (with_reducible rfl))
      simp only [Act.put, List.setIfInBounds_toArray, List.set_cons_zero, List.set_cons_succ]
      refine' wpAnyH_take (i := 9) (v := _) (by simp only [List.getElem?_toArray, List.getElem?_cons_succ, List.getElem?_cons_zero]; rfl) (by kernel_rfl) (by kernel_rfl) (by kernel_rfl) (by intro _ _ _ h; exact h) (Or.inl ⟨by rfl, ?hya9⟩) hHeld ?resta9
      case hya9 => (intro w hSw; (try dsimp only at hSw); go_simp; try (with_reducible rfl))
      simp only [Act.put, List.setIfInBounds_toArray, List.set_cons_zero, List.set_cons_succ]
      refine' wpAnyH_take (i := 10) (v := _) (by simp only [List.getElem?_toArray, List.getElem?_cons_succ, List.getElem?_cons_zero]; rfl) (by kernel_rfl) (by kernel_rfl) (by kernel_rfl) (by intro _ _ _ h; exact h) (Or.inl ⟨by rfl, ?hya10⟩) hHeld ?resta10
      case hya10 => (intro w hSw; (try dsimp only at hSw); go_simp; try (with_reducible rfl))
      simp only [Act.put, List.setIfInBounds_toArray, List.set_cons_zero, List.set_cons_succ]
      refine' wpAnyH_take (i := 11) (v := _) (by simp only [List.getElem?_toArray, List.getElem?_cons_succ, List.getElem?_cons_zero]; rfl) (by kernel_rfl) (by kernel_rfl) (by kernel_rfl) (by intro _ _ _ h; exact h) (Or.inl ⟨by rfl, ?hya11⟩) hHeld ?resta11
      case hya11 => (intro w hSw; (try dsimp only at hSw); go_simp; try (with_reducible rfl))
      simp only [Act.put, List.setIfInBounds_toArray, List.set_cons_zero, List.set_cons_succ]
      refine' wpAnyH_take (i := 12) (v := _) (by simp only [List.getElem?_toArray, List.getElem?_cons_succ, List.getElem?_cons_zero]; rfl) (by kernel_rfl) (by kernel_rfl) (by kernel_rfl) (by intro _ _ _ h; exact h) (Or.inl ⟨by rfl, ?hya12⟩) hHeld ?resta12
      case hya12 => (intro w hSw; (try dsimp only at hSw); go_simp; try (with_reducible rfl))
      simp only [Act.put, List.setIfInBounds_toArray, List.set_cons_zero, List.set_cons_succ]
      refine' wpAnyH_take (i := 13) (v := _) (by simp only [List.getElem?_toArray, List.getElem?_cons_succ, List.getElem?_cons_zero]; rfl) (by kernel_rfl) (by kernel_rfl) (by kernel_rfl) (by intro _ _ _ h; exact h) (Or.inl ⟨by rfl, ?hya13⟩) hHeld ?resta13
      case hya13 => (intro w hSw; (try dsimp only at hSw); go_simp; try (with_reducible rfl))
      simp only [Act.put, List.setIfInBounds_toArray, List.set_cons_zero, List.set_cons_succ]
      refine' wpAnyH_take (i := 14) (v := _) (by simp only [List.getElem?_toArray, List.getElem?_cons_succ, List.getElem?_cons_zero]; rfl) (by kernel_rfl) (by kernel_rfl) (by kernel_rfl) (by intro _ _ _ h; exact h) (Or.inl ⟨by rfl, ?hya14⟩) hHeld ?resta14
      case hya14 => (intro w hSw; (try dsimp only at hSw); go_simp; try (with_reducible rfl))
      simp only [Act.put, List.setIfInBounds_toArray, List.set_cons_zero, List.set_cons_succ]
      refine' wpAnyH_take (i := 15) (v := _) (by simp only [List.getElem?_toArray, List.getElem?_cons_succ, List.getElem?_cons_zero]; rfl) (by kernel_rfl) (by kernel_rfl) (by kernel_rfl) (by intro _ _ _ h; exact h) (Or.inl ⟨by rfl, ?hya15⟩) hHeld ?resta15
      case hya15 => (intro w hSw; (try dsimp only at hSw); go_simp; try (with_reducible rfl))
      simp only [Act.put, List.setIfInBounds_toArray, List.set_cons_zero, List.set_cons_succ]
      refine' wpAnyH_take (i := 16) (v := _) (by simp only [List.getElem?_toArray, List.getElem?_cons_succ, List.getElem?_cons_zero]; rfl) (by kernel_rfl) (by kernel_rfl) (by kernel_rfl) (by intro _ _ _ h; exact h) (Or.inl ⟨by rfl, ?hya16⟩) hHeld ?resta16
      case hya16 => (intro w hSw; (try dsimp only at hSw); go_simp; try (with_reducible rfl))
      simp only [Act.put, List.setIfInBounds_toArray, List.set_cons_zero, List.set_cons_succ]
      refine' wpAnyH_take (i := 17) (v := _) (by simp only [List.getElem?_toArray, List.getElem?_cons_succ, List.getElem?_cons_zero]; rfl) (by kernel_rfl) (by kernel_rfl) (by kernel_rfl) (by intro _ _ _ h; exact h) (Or.inl ⟨by rfl, ?hya17⟩) hHeld ?resta17
      case hya17 => (intro w hSw; (try dsimp only at hSw); go_simp; try (with_reducible rfl))
      simp only [Act.put, List.setIfInBounds_toArray, List.set_cons_zero, List.set_cons_succ]
      refine' wpAnyH_take (i := 18) (v := _) (by simp only [List.getElem?_toArray, List.getElem?_cons_succ, List.getElem?_cons_zero]; rfl) (by kernel_rfl) (by kernel_rfl) (by kernel_rfl) (by intro _ _ _ h; exact h) (Or.inl ⟨by rfl, ?hya18⟩) hHeld ?resta18
      case hya18 => (intro w hSw; (try dsimp only at hSw); go_simp; try (with_reducible rfl))
      simp only [Act.put, List.setIfInBounds_toArray, List.set_cons_zero, List.set_cons_succ]
      refine' wpAnyH_take (i := 19) (v := _) (by simp only [List.getElem?_toArray, List.getElem?_cons_succ, List.getElem?_cons_zero]; rfl) (by kernel_rfl) (by kernel_rfl) (by kernel_rfl) (by intro _ _ _ h; exact h) (Or.inl ⟨by rfl, ?hya19⟩) hHeld ?resta19
      case hya19 => (intro w hSw; (try dsimp only at hSw); go_simp; try (with_reducible rfl))
      simp only [Act.put, List.setIfInBounds_toArray, List.set_cons_zero, List.set_cons_succ]
      refine' wpAnyH_take (i := 20) (v := _) (by simp only [List.getElem?_toArray, List.getElem?_cons_succ, List.getElem?_cons_zero]; rfl) (by kernel_rfl) (by kernel_rfl) (by kernel_rfl) (by intro _ _ _ h; exact h) (Or.inl ⟨by rfl, ?hya20⟩) hHeld ?resta20
      case hya20 => (intro w hSw; (try dsimp only at hSw); go_simp; try (with_reducible rfl))
      simp only [Act.put, List.setIfInBounds_toArray, List.set_cons_zero, List.set_cons_succ]
      refine' wpAnyH_take (i := 21) (v := _) (by simp only [List.getElem?_toArray, List.getElem?_cons_succ, List.getElem?_cons_zero]; rfl) (by kernel_rfl) (by kernel_rfl) (by kernel_rfl) (by intro _ _ _ h; exact h) (Or.inl ⟨by rfl, ?hya21⟩) hHeld ?resta21
      case hya21 => (intro w hSw; (try dsimp only at hSw); go_simp; try (with_reducible rfl))
      simp only [Act.put, List.setIfInBounds_toArray, List.set_cons_zero, List.set_cons_succ]
      refine wpAnyH_ready (rs := [22]) (by kernel_rfl) (by simp) (AllReadyH.cons (by simp only [List.getElem?_toArray, List.getElem?_cons_succ, List.getElem?_cons_zero]; rfl) (fun K hK => ?_) AllReadyH.nil)
      go_simp
      refine hK.out _ _ ?_ (fun hHeld => ?_)
      · go_keep
      clear hK K
      try simp only [Act.put, List.setIfInBounds_toArray, List.set_cons_zero, List.set_cons_succ]
      refine' wpAnyH_take (i := 23) (v := _) (by simp only [List.getElem?_toArray, List.getElem?_cons_succ, List.getElem?_cons_zero]; rfl) (by kernel_rfl) (by kernel_rfl) (by kernel_rfl) (by intro _ _ _ h; exact h) (Or.inl ⟨by rfl, ?hya23⟩) hHeld ?resta23
      case hya23 => (intro w hSw; (try dsimp only at hSw); go_simp; try (with_reducible rfl))
      simp only [Act.put, List.setIfInBounds_toArray, List.set_cons_zero, List.set_cons_succ]
      refine wpAnyH_done (by kernel_rfl) ?_ _
      clear e0 e1 e2 e3 e4 e5 e6 e7 hHeld
      go_wp2_with fail
      go_roundg (64 - (i + 1))
      case measure => have := hn.out; omega
      case rel =>
        refine ⟨i + 1, w4.heap.size, 8, by go_num, rfl, by have := hn.out; show _ = _; omega, ?_⟩
        have hr := round_E HX.out HY.out
        rw [HADD.out, hr]
        have ht := (((Turn.refl Nope w4).alloc (.cells #[.int .u32 ((X + Y) % 4294967296), .int .u32 t.a, .int .u32 t.b, .int .u32 t.c, .int .u32 ((t.d + X) % 4294967296), .int .u32 t.e, .int .u32 t.f, .int .u32 t.g] 39)).drew)
        have h5 := HM4.out.nope ht
        exact ⟨h5.rk, h5.rws, h5.rv, ⟨rfl, .inr ⟨w4.heap.size, 8, _, rfl, HM4.out.tn.size, blk_drew (blk_new _ _), by decide, by decide, rfl, rfl⟩⟩, h5.tn⟩
    · obtain rfl : i = 64 := by have := hn.out; omega
      have b1 : decide (((64 : Nat) : Int) < 64) = false := by decide
      clear hlt
      rw [List.take_of_length_le (by rw [List.length_zip, HWL.out]; decide)] at hM
      obtain ⟨t, ht⟩ : ∃ t, roundsP s (keysP.zip ws) = t := ⟨_, rfl⟩
      have hrs := HRS.out
      rw [ht] at hM hrs
      have HR2 := Lib.hid hrs
      clear hrs ht
      have HS0 : Hid (SumW w wr g cap bv gt ct s t 0) := ⟨hM.out.rv, by rw [sumsL_0]; exact hM.out.rt, hM.out.tn, by have := HGL.out; have := own_base hM.out.rt gt rfl; omega, own_base hM.out.rt gt rfl⟩
      clear hM
      go_wp2_with fail
      go_loopg [13] 8 (fun n v13 wx => ∃ i : Nat, v13 = .int .i64 (i : Int) ∧ Hid (n + i = 8) ∧ Hid (SumW w wx g cap bv gt ct s t i))
      case atStart => exact ⟨0, rfl, rfl, HS0.out⟩
      case round =>
        obtain ⟨i, rfl, hn, hM⟩ := hrel
        clear HS0
        by_cases hlt : i < 8
        · have b1 : decide ((i : Int) < 8) = true := by simp; omega
          have b1n : decide (i < 8) = true := by simp; omega
          have j0 : (0 : Int) ≤ (i : Int) := by omega
          have j1 : (i : Int) < 8 := by omega
          have HW : Hid (wrap64 ((i : Int) + 1) = (i : Int) + 1) := IntWalk.wrap64_in _ ⟨by omega, by omega⟩
          have ct0 : wr.cell? ⟨gt, i, none⟩ = some (.int .u32 ((stL t).getD i 0)) := by
            have := row_at hM.out.rt (sumsL_at s t i i hlt)
            rw [if_neg (Nat.lt_irrefl i)] at this
            exact this
          have cs0 : wr.cell? ⟨g, i, none⟩ = some (.int .u32 ((stL s).getD i 0)) := row_at hM.out.rv (u32s_at hlt)
          have fr0 : wr.frozen? ⟨gt, i, none⟩ = false := row_frozen hM.out.rt i
          obtain ⟨ti, hti⟩ : ∃ x, (stL t).getD i 0 = x := ⟨_, rfl⟩
          obtain ⟨si, hsi⟩ : ∃ x, (stL s).getD i 0 = x := ⟨_, rfl⟩
          rw [hti] at ct0
          rw [hsi] at cs0
          have HT := Lib.hid (And.intro hti hsi)
          clear hti hsi
          go_wp2_with (first | (refine still_tail (id := 15) 10 (by kernel_rfl) (by kernel_rfl) ?_; simp only [List.take_succ_cons, List.take_zero, List.drop_succ_cons, List.drop_zero]; (repeat still_step); refine wpStill_nil ?_))
          go_roundg (8 - (i + 1))
          case measure => have := hn.out; omega
          case rel => exact ⟨i + 1, by go_num, by have := hn.out; show _ = _; omega, (hM.out.put hlt (by rw [HT.out.1, HT.out.2]; unfold ad2; omega)).drew⟩
        · obtain rfl : i = 8 := by have := hn.out; omega
          have b1 : decide (((8 : Nat) : Int) < 8) = false := by decide
          clear hlt
          go_wp2_with fail
          go_ret
          refine ⟨gt, ct, rfl, ?_, hM.out.tn⟩
          have := hM.out.rt
          rw [sumsL_8, ← HR2.out] at this
          exact this
end Go.Proofs.Ytojfknogdknhkaa
