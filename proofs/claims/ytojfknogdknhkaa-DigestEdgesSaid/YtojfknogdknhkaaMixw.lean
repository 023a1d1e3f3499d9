/- A block mixed in: the walk of mix. -/
import Derived.Test.YtojfknogdknhkaaMix
set_option maxRecDepth 16000
set_option linter.unusedVariables false
set_option linter.unusedSimpArgs false
namespace Go.Proofs.Ytojfknogdknhkaa
open Go.RowKit
variable {w w' : World}
theorem row_at {w : World} {base e n g cap : Nat} {xs : List Value} (h : w.ownsRow base e 1 (.slice (some ⟨g, 0, none⟩) n cap) n xs) {j : Nat} {u : Value} (hj : xs[j]? = some u) : w.cell? ⟨g, j, none⟩ = some u := by
  have hj' : j < xs.length := (List.getElem?_eq_some_iff.1 hj).1
  rw [h.1] at hj'
  obtain ⟨g', cap', he, hr⟩ := row_reads h (by omega)
  injection he with h1 h2 h3
  injection h1 with h1
  injection h1 with h1
  rw [h1]; exact hr j u hj
theorem roundsP_add (s : St) (l : List (Int × Int)) (i : Nat) (kw : Int × Int) (h : l[i]? = some kw) : roundsP s (l.take (i + 1)) = roundP (roundsP s (l.take i)) kw.1 kw.2 := by
  have hi := (List.getElem?_eq_some_iff.1 h).1
  rw [List.take_add_one, h]
  unfold roundsP
  rw [List.foldl_append]; rfl
theorem roundsP_w : ∀ (l : List (Int × Int)) {s : St}, WSt s → WSt (roundsP s l)
  | [], s, h => h
  | x :: l, s, h => roundsP_w l (roundP_w h x.1 x.2)
def rtK (k x : Int) : Int := if k = 26 then rt 64 67108864 x else if k = 21 then rt 2048 2097152 x else if k = 7 then rt 33554432 128 x else if k = 30 then rt 4 1073741824 x else if k = 19 then rt 8192 524288 x else rt 4194304 1024 x
def GoodK (k : Int) : Prop := k = 26 ∨ k = 21 ∨ k = 7 ∨ k = 30 ∨ k = 19 ∨ k = 10
theorem rot_K (k x : Int) (hk : GoodK k) (hx : W32 x) (w : World) : Calls Try.prog 29 #[.int .u32 x, .int .i64 k] w fun e w' => e = .returned (.int .u32 (rtK k x)) ∧ w' = w := by
  rcases hk with rfl | rfl | rfl | rfl | rfl | rfl
  · exact rot_26 x hx w
  · exact rot_21 x hx w
  · exact rot_7 x hx w
  · exact rot_30 x hx w
  · exact rot_19 x hx w
  · exact rot_10 x hx w
theorem keysP_len : keysP.length = 64 := rfl
set_option maxHeartbeats 8000000 in
theorem mix_any (s : St) (hs : WSt s) (b : ByteArray) (hb : 64 ≤ b.size) (hmx : b.size ≤ 9223372036854775807) (w : World) :
    Calls Try.prog 20 #[stV s, .string b] w fun e w' => e = .returned (stV (mixP s b.data.toList)) ∧ Turn Nope w w' := by
  have HS := Lib.hid hs
  clear hs
  obtain ⟨ws, hws⟩ : ∃ ws, wordsP b.data.toList = ws := ⟨_, rfl⟩
  have hwl : ws.length = 64 := by rw [← hws]; unfold wordsP; rw [growW_len]; simp [first16]
  have HWL := Lib.hid hwl
  clear hwl
  obtain ⟨R, hR⟩ : ∃ R, mixP s b.data.toList = R := ⟨_, rfl⟩
  rw [hR]
  have HRS : Hid (R = sumSt s (roundsP s (keysP.zip ws))) := by rw [← hR, ← hws]; rfl
  clear hR
  unfold stV
  unfold stA
  go_enter Try.func20, Try.ntmps20
  go_wp2_with fail
  obtain ⟨H, hH⟩ : ∃ H, w.heap.size = H := ⟨_, rfl⟩
  have hA1 : (((w.alloc (.cells (stA s) 52)).alloc (.cells (stA zeroSt) 52)).alloc (.cells (stA s) 52)).heap[H]? = some (.cells (stA s) 52 (0, 0)) := by rw [← hH]; exact blk_alloc (blk_alloc (blk_new _ _) _) _
  have hA2 : (((w.alloc (.cells (stA s) 52)).alloc (.cells (stA zeroSt) 52)).alloc (.cells (stA s) 52)).heap[H + 1]? = some (.cells (stA zeroSt) 52 (0, 0)) := by
    refine blk_alloc ?_ _
    have := blk_new (w.alloc (.cells (stA s) 52)) (.cells (stA zeroSt) 52)
    rw [← hH]; simpa using this
  have hA3 : (((w.alloc (.cells (stA s) 52)).alloc (.cells (stA zeroSt) 52)).alloc (.cells (stA s) 52)).heap[H + 1 + 1]? = some (.cells (stA s) 52 (0, 0)) := by
    have := blk_new ((w.alloc (.cells (stA s) 52)).alloc (.cells (stA zeroSt) 52)) (.cells (stA s) 52)
    rw [← hH]; simpa using this
  have hA4 : (((w.alloc (.cells (stA s) 52)).alloc (.cells (stA zeroSt) 52)).alloc (.cells (stA s) 52)).heap.size = H + 3 := by rw [← hH]; simp
  have hA5 : Turn Nope w (((w.alloc (.cells (stA s) 52)).alloc (.cells (stA zeroSt) 52)).alloc (.cells (stA s) 52)) := (((Turn.refl _ _).alloc _).alloc _).alloc _
  refine (?_ : Calls _ _ _ (((w.alloc (.cells (stA s) 52)).alloc (.cells (stA zeroSt) 52)).alloc (.cells (stA s) 52)) _)
  generalize (((w.alloc (.cells (stA s) 52)).alloc (.cells (stA zeroSt) 52)).alloc (.cells (stA s) 52)) = w0 at *
  rw [hH]
  refine (round_any _).mono ?_
  rintro e w1 ⟨vk, rfl, hk, ht1⟩
  have HK := Lib.hid (And.intro hk ht1)
  clear hk ht1
  go_wp2_with fail
  refine (words_any b hb hmx _).mono ?_
  rintro e w2 ⟨vw, rfl, hw, ht2⟩
  rw [hws] at hw
  obtain ⟨hk, ht1⟩ := HK.out
  obtain ⟨kb, c1, rfl, -⟩ := row_reads hk (by omega)
  obtain ⟨wb, c2, rfl, -⟩ := row_reads hw (by omega)
  have HM0 : Hid (MixW w w2 H s s (.slice (some ⟨kb, 0, none⟩) 64 c1) (.slice (some ⟨wb, 0, none⟩) 64 c2) ws) :=
    ⟨ht2.blk (ht1.blk hA1 fun h => h) fun h => h, ht2.blk (ht1.blk hA2 fun h => h) fun h => h, ht2.blk (ht1.blk hA3 fun h => h) fun h => h, own_nope (own_lower hk (by omega)) ht2, own_lower hw (by have := ht1.size; omega), (hA5.trans ht1).trans ht2, hH⟩
  clear hA1 hA2 hA3 hA4 hA5 hk hw ht1 ht2 HK hws hH hb hmx
  go_wp2_with fail
  go_loopg [18] 64 (fun n v18 wr => ∃ (i : Nat), v18 = .int .i64 (i : Int) ∧ Hid (n + i = 64) ∧ Hid (MixW w wr H s (roundsP s ((keysP.zip ws).take i)) (.slice (some ⟨kb, 0, none⟩) 64 c1) (.slice (some ⟨wb, 0, none⟩) 64 c2) ws))
  case atStart => exact ⟨0, rfl, rfl, HM0.out⟩
  case round =>
    obtain ⟨i, rfl, hn, hM⟩ := hrel
    clear HM0
    by_cases hlt : i < 64
    · have b1 : decide ((i : Int) < 64) = true := by simp; omega
      have b1n : decide (i < 64) = true := by simp; omega
      have j0 : (0 : Int) ≤ (i : Int) := by omega
      have j1 : (i : Int) < 64 := by omega
      have HW : Hid (wrap64 ((i : Int) + 1) = (i : Int) + 1) := IntWalk.wrap64_in _ ⟨by omega, by omega⟩
      have hzw : (keysP.zip ws)[i]? = some (keysP.getD i 0, ws.getD i 0) := by
        have h1 : i < keysP.length := hlt
        have h2 : i < ws.length := by rw [HWL.out]; exact hlt
        rw [List.getElem?_zip_eq_some, List.getD_eq_getElem?_getD, List.getD_eq_getElem?_getD, List.getElem?_eq_getElem h1, List.getElem?_eq_getElem h2]
        exact ⟨rfl, rfl⟩
      have hadd := roundsP_add s _ i _ hzw
      have ck : wr.cell? ⟨kb, i, none⟩ = some (.int .u32 (keysP.getD i 0)) := row_at hM.out.rk (u32s_at hlt)
      have cw : wr.cell? ⟨wb, i, none⟩ = some (.int .u32 (ws.getD i 0)) := row_at hM.out.rws (u32s_at (by rw [HWL.out]; exact hlt))
      obtain ⟨ki, hki⟩ : ∃ x, keysP.getD i 0 = x := ⟨_, rfl⟩
      obtain ⟨wi, hwi⟩ : ∃ x, ws.getD i 0 = x := ⟨_, rfl⟩
      have hWT := roundsP_w ((keysP.zip ws).take i) HS.out
      rw [hki] at hadd ck
      rw [hwi] at hadd cw
      obtain ⟨t, ht⟩ : ∃ t, roundsP s ((keysP.zip ws).take i) = t := ⟨_, rfl⟩
      rw [ht] at hM hadd hWT
      have HADD := Lib.hid hadd
      have HWT := Lib.hid hWT
      clear ht hki hwi hzw hadd hWT
      obtain ⟨e0, e1, e2, e3, e4, e5, e6, e7⟩ := stA_cells hM.out.cur
      go_wp2_with fail
      obtain ⟨ch, hch⟩ : ∃ x, chI t.e t.f t.g = x := ⟨_, rfl⟩
      obtain ⟨mj, hmj⟩ : ∃ x, majI t.a t.b t.c = x := ⟨_, rfl⟩
      have HCM := Lib.hid (And.intro hch hmj)
      unfold chI at hch
      unfold majI at hmj
      rw [hch, hmj]
      clear hch hmj
      go_quiet (fail)
      have HM3 : Hid (MixW w (wr.drewN nq) H s t (.slice (some ⟨kb, 0, none⟩) 64 c1) (.slice (some ⟨wb, 0, none⟩) 64 c2) ws) := hM.out.nope ((Turn.refl _ _).drewN _)
      clear ck cw hM e0 e1 e2 e3 e4 e5 e6 e7
      generalize wr.drewN nq = w3 at HM3 ⊢
      obtain ⟨e0, e1, e2, e3, e4, e5, e6, e7⟩ := stA_cells HM3.out.cur
      have HC : Hid (∀ k n, GoodK k → Calls Try.prog 29 #[.int .u32 t.e, .int .i64 k] (w3.drewN n) fun e w' => e = .returned (.int .u32 (rtK k t.e)) ∧ w' = w3.drewN n) := fun k n hk => rot_K k _ hk HWT.out.e _
      go_wp2_with fail
      go_quiet ((go_at_call 29; exact Calls.quiet_of_same (HC.out _ _ (by unfold GoodK; decide))))
      have HM4 : Hid (MixW w (w3.drewN nq) H s t (.slice (some ⟨kb, 0, none⟩) 64 c1) (.slice (some ⟨wb, 0, none⟩) 64 c2) ws) := HM3.out.nope ((Turn.refl _ _).drewN _)
      clear HC HM3 e0 e1 e2 e3 e4 e5 e6 e7
      generalize w3.drewN nq = w4 at HM4 ⊢
      have HC : Hid (∀ k n, GoodK k → Calls Try.prog 29 #[.int .u32 t.a, .int .i64 k] (w4.drewN n) fun e w' => e = .returned (.int .u32 (rtK k t.a)) ∧ w' = w4.drewN n) := fun k n hk => rot_K k _ hk HWT.out.a _
      obtain ⟨e0, e1, e2, e3, e4, e5, e6, e7⟩ := stA_cells HM4.out.cur
      go_wp2_with fail
      go_quiet ((go_at_call 29; exact Calls.quiet_of_same (HC.out _ _ (by unfold GoodK; decide))))
      have HM5 : Hid (MixW w (w4.drewN nq) H s t (.slice (some ⟨kb, 0, none⟩) 64 c1) (.slice (some ⟨wb, 0, none⟩) 64 c2) ws) := HM4.out.nope ((Turn.refl _ _).drewN _)
      clear HC HM4 e0 e1 e2 e3 e4 e5 e6 e7
      generalize w4.drewN nq = w5 at HM5 ⊢
      obtain ⟨e0, e1, e2, e3, e4, e5, e6, e7⟩ := stA_cells HM5.out.cur
      obtain ⟨f0, f1, f2, f3, f4, f5, f6, f7⟩ := st_frozen HM5.out.cur
      go_wp2_with fail
      go_roundg (64 - (i + 1))
      case measure => have := hn.out; omega
      case rel =>
        clear e0 e1 e2 e3 e4 e5 e6 e7 f0 f1 f2 f3 f4 f5 f6 f7
        refine ⟨i + 1, by go_num, by have := hn.out; show _ = _; omega, ?_⟩
        rw [HADD.out]
        obtain ⟨be, hbe⟩ : ∃ x, bits .xor .u32 (bits .xor .u32 (rtK 26 t.e) (rtK 21 t.e)) (rtK 7 t.e) = x := ⟨_, rfl⟩
        obtain ⟨ba, hba⟩ : ∃ x, bits .xor .u32 (bits .xor .u32 (rtK 30 t.a) (rtK 19 t.a)) (rtK 10 t.a) = x := ⟨_, rfl⟩
        have hr : roundP t ki wi = ⟨(t.h + ch + ki + wi + be + (mj + ba)) % 4294967296, t.a, t.b, t.c, (t.d + (t.h + ch + ki + wi + be)) % 4294967296, t.e, t.f, t.g⟩ := by
          have h1 : bigE t.e = be := hbe
          have h2 : bigA t.a = ba := hba
          unfold roundP ad2
          rw [h1, h2, HCM.out.1, HCM.out.2]
          simp only []
          congr 1 <;> omega
        rw [hr, hbe, hba]
        exact HM5.out.set ⟨(t.h + ch + ki + wi + be + (mj + ba)) % 4294967296, t.a, t.b, t.c, (t.d + (t.h + ch + ki + wi + be)) % 4294967296, t.e, t.f, t.g⟩
    · obtain rfl : i = 64 := by have := hn.out; omega
      have b1 : decide (((64 : Nat) : Int) < 64) = false := by decide
      clear hlt
      rw [List.take_of_length_le (by rw [List.length_zip, HWL.out]; decide)] at hM
      obtain ⟨t, ht⟩ : ∃ t, roundsP s (keysP.zip ws) = t := ⟨_, rfl⟩
      have hrs := HRS.out
      rw [ht] at hM hrs
      have HR2 := Lib.hid hrs
      clear hrs ht
      obtain ⟨e0, e1, e2, e3, e4, e5, e6, e7⟩ := stA_cells hM.out.cur
      obtain ⟨d0, d1, d2, d3, d4, d5, d6, d7⟩ := stA_cells hM.out.box
      obtain ⟨g0, g1, g2, g3, g4, g5, g6, g7⟩ := stA_cells hM.out.res
      obtain ⟨f0, f1, f2, f3, f4, f5, f6, f7⟩ := st_frozen hM.out.res
      have HE := Lib.hid (store8_blk hM.out.res (sumSt s t))
      have HT : Hid (Turn Nope w (store8 wr (H + 1) (sumSt s t))) := store8_turn hM.out.turn (.inr (by rw [hM.out.hz]; omega)) _
      go_wp2_with fail
      clear e0 e1 e2 e3 e4 e5 e6 e7 d0 d1 d2 d3 d4 d5 d6 d7 f0 f1 f2 f3 f4 f5 f6 f7 g0 g1 g2 g3 g4 g5 g6 g7
      refine (?_ : bodyPost _ _ _ _ _ (store8 wr (H + 1) (sumSt s t)))
      have hR := HR2.out
      clear HR2 HRS
      subst hR
      generalize store8 wr (H + 1) (sumSt s t) = wE at HE HT ⊢
      obtain ⟨e0, e1, e2, e3, e4, e5, e6, e7⟩ := stA_cells HE.out
      exact bodyPost_ret (v := stV (sumSt s t)) (by simp [results, Try.results20, go_sem, e0, e1, e2, e3, e4, e5, e6, e7, stV, stA]) rfl ⟨rfl, HT.out⟩
end Go.Proofs.Ytojfknogdknhkaa
