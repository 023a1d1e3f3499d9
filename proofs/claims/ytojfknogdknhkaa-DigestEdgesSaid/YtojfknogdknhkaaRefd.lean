/- The document's Of: the sum, as bytes. -/
import Derived.Test.YtojfknogdknhkaaRefc
set_option maxRecDepth 16000
set_option linter.unusedVariables false
set_option linter.unusedSimpArgs false
namespace Go.Proofs.Ytojfknogdknhkaa
open Go.RowKit
variable {w w' : World}
theorem byteAt_take (l : List UInt8) (j : Nat) (hj : j < 64) : byteAt (l.take 64) j = byteAt l j := by
  unfold byteAt
  rw [List.getD_eq_getElem?_getD, List.getD_eq_getElem?_getD, List.getElem?_take_of_lt hj]
theorem mixP_take (s : St) (l : List UInt8) : mixP s (l.take 64) = mixP s l := by
  have h : first16 (l.take 64) = first16 l := by
    unfold first16
    apply List.map_congr_left
    intro i hi
    have hi := List.mem_range.1 hi
    unfold word0
    rw [byteAt_take _ _ (by omega), byteAt_take _ _ (by omega), byteAt_take _ _ (by omega), byteAt_take _ _ (by omega)]
  unfold mixP wordsP
  rw [h]
theorem feed_snd : ∀ (k : Nat) (s : St) (l : List UInt8), (feed k s l).2 = l.drop (64 * k)
  | 0, s, l => rfl
  | k + 1, s, l => by
    show (feed k (mixP s l) (l.drop 64)).2 = _
    rw [feed_snd k, List.drop_drop]
    congr 1
    omega
theorem feed_fst : ∀ (k : Nat) (s : St) (l : List UInt8), (feed (k + 1) s l).1 = mixP (feed k s l).1 (l.drop (64 * k))
  | 0, s, l => rfl
  | k + 1, s, l => by
    show (feed (k + 1) (mixP s l) (l.drop 64)).1 = _
    rw [feed_fst k, List.drop_drop]
    show mixP (feed (k + 1) s l).1 _ = _
    congr 2
    omega
theorem feed_w : ∀ (k : Nat) (s : St) (l : List UInt8), WSt s → WSt (feed k s l).1
  | 0, s, l, h => h
  | k + 1, s, l, h => feed_w k _ _ (mixP_w _ _)
theorem Try.info5 : (Try.prog.info? 5).map (fun i => (i.zero, i.size, i.bytes)) = some (some (.int .u8 0), 1, 1) := by kernel_rfl
/-- The state behind all blocks of the padded bytes. -/
def sumP (l : List UInt8) : St := (feed ((longL l).length / 64) beginSt (longL l)).1
def u8v (l : List Int) : List Value := l.map fun x => Value.int .u8 x
def wordBytes (x : Int) : List Int := [x / 16777216 % 256, x / 65536 % 256, x / 256 % 256, x % 256]
theorem longL_len (l : List UInt8) : (longL l).length = l.length + 1 + padR l.length + 8 := by
  unfold longL
  rw [List.length_append, List.length_append, List.length_append, List.length_replicate, be8_len]; rfl
theorem longL_64 (l : List UInt8) : (longL l).length % 64 = 0 := by
  rw [longL_len]; unfold padR; omega
theorem stL_w {s : St} (h : WSt s) : ∀ x ∈ stL s, W32 x := by
  intro x hx
  simp only [stL, List.mem_cons, List.not_mem_nil, or_false] at hx
  rcases hx with rfl | rfl | rfl | rfl | rfl | rfl | rfl | rfl
  · exact h.a
  · exact h.b
  · exact h.c
  · exact h.d
  · exact h.e
  · exact h.f
  · exact h.g
  · exact h.h
theorem wordB {x : Int} (hx : W32 x) : [Value.int .u8 (x.tdiv 16777216 % 256), .int .u8 (x.tdiv 65536 % 256), .int .u8 (x.tdiv 256 % 256), .int .u8 (x.tmod 256 % 256)] = u8v (wordBytes x) := by
  have h0 := hx.1
  rw [Int.tdiv_eq_ediv_of_nonneg h0, Int.tdiv_eq_ediv_of_nonneg h0, Int.tdiv_eq_ediv_of_nonneg h0, Int.tmod_eq_emod_of_nonneg h0, Int.emod_emod]
  rfl
theorem stBytes_flat (s : St) : stBytes s = (stL s).flatMap wordBytes := rfl
theorem conv32 (W : World) (base g cap : Nat) (l : List Int) (n : Nat) (h : W.ownsRow base 5 1 (.slice (some ⟨g, 0, none⟩) n cap) n (u8v l)) : (convert 27 9 (.slice (some ⟨g, 0, none⟩) n cap)).run Try.prog W = .ok (.string (strOfNums l)) W := by
  refine run_convert_bytes_arg (P := Try.prog) W 27 5 Try.underlying27 Try.underlying5 g 0 n cap l ?_ (fun i hi => ?_) 9 Try.underlying9
  · have := h.1
    simpa [u8v] using this
  · have hl : i < l.length := by have := h.1; simp [u8v] at this; omega
    rw [Nat.zero_add]
    refine row_at h ?_
    unfold u8v
    rw [List.getElem?_map, List.getElem?_eq_getElem hl, List.getD_eq_getElem?_getD, List.getElem?_eq_getElem hl]
    rfl
set_option maxHeartbeats 8000000 in
theorem refOf_any (s : ByteArray) (hs : s.size ≤ 1000000) (w : World) :
    Calls Try.prog 10 #[.string s] w fun e w' => e = .returned (.string (strOfNums (stBytes (sumP s.data.toList)))) ∧ Turn Nope w w' := by
  obtain ⟨i39, hi39, hz39, hs39, hb39⟩ := info_parts Try.info39
  have I39 := Lib.hid (And.intro hi39 (And.intro hz39 (And.intro hs39 hb39)))
  clear hi39 hz39 hs39 hb39
  obtain ⟨i5, hi5, hz5, hs5, hb5⟩ := info_parts Try.info5
  have I5 := Lib.hid (And.intro hi5 (And.intro hz5 (And.intro hs5 hb5)))
  clear hi5 hz5 hs5 hb5
  obtain ⟨R, hR⟩ : ∃ R, sumP s.data.toList = R := ⟨_, rfl⟩
  rw [hR]
  go_enter Try.func10, Try.ntmps10
  go_wp2_with fail
  refine (long_any s (by omega) _).mono ?_
  rintro e w1 ⟨c, rfl, hc, hcs, ht⟩
  obtain ⟨L, hL⟩ : ∃ L, longL s.data.toList = L := ⟨_, rfl⟩
  have hLR : (feed (L.length / 64) beginSt L).1 = R := by rw [← hR, ← hL]; rfl
  have hcl : c.data.toList.length = c.size := rfl
  have h64 : c.size = 64 * (c.size / 64) := by
    have := longL_64 s.data.toList
    rw [← hc, hcl] at this
    omega
  have hcz : c.size ≤ 1048576 := by rw [hcs]; unfold padR; omega
  rw [hL] at hc
  obtain ⟨M, hM⟩ : ∃ M, c.size / 64 = M := ⟨_, rfl⟩
  rw [hM] at h64
  have HC := Lib.hid (And.intro hc (And.intro h64 hcz))
  have HR : Hid ((feed M beginSt L).1 = R) := by rw [← hM, ← hcl, hc]; exact hLR
  have HT1 := Lib.hid ht
  have HWR : Hid (WSt R) := by rw [← HR.out]; exact feed_w _ _ _ beginSt_w
  clear hs hc hcs hL hR hLR hcl h64 hcz hM ht
  go_wp2_with fail
  have HO : Hid ((w1.alloc (.cells (stA beginSt) 39)).ownsRow w.heap.size 39 1 (.slice (some ⟨w1.heap.size, 0, none⟩) 8 8) 8 (u32s (stL (feed 0 beginSt L).1)) ∧ Turn Nope w (w1.alloc (.cells (stA beginSt) 39))) :=
    ⟨⟨rfl, .inr ⟨w1.heap.size, 8, _, rfl, HT1.out.size, blk_new _ _, by decide, by decide, rfl, rfl⟩⟩, HT1.out.alloc _⟩
  go_loopg [3, 4] M (fun m v3 v4 wr => ∃ (k gt ct : Nat), v4 = .int .i64 ((64 * k : Nat) : Int) ∧ v3 = .slice (some ⟨gt, 0, none⟩) 8 ct ∧ Hid (m + k = M) ∧ Hid (wr.ownsRow w.heap.size 39 1 (.slice (some ⟨gt, 0, none⟩) 8 ct) 8 (u32s (stL (feed k beginSt L).1)) ∧ Turn Nope w wr))
  case atStart => exact ⟨0, _, _, rfl, rfl, rfl, HO.out⟩
  case round =>
    obtain ⟨k, gt, ct, rfl, rfl, hm, hS⟩ := hrel
    clear HO
    obtain ⟨p, hp⟩ : ∃ p, 64 * k = p := ⟨_, rfl⟩
    by_cases hlt : k < M
    · have b1 : decide (((64 * k : Nat) : Int) < (c.size : Int)) = true := by have := HC.out.2.1; simp; omega
      have b1n : decide (64 * k < c.size) = true := by have := HC.out.2.1; simp; omega
      have hw : wrap64 (((64 * k : Nat) : Int) + 64) = ((64 * k + 64 : Nat) : Int) := by have := HC.out.2; have h := IntWalk.wrap64_in (((64 * k : Nat) : Int) + 64) ⟨by omega, by omega⟩; rw [h]; omega
      have l1 : (64 * k : Nat) + 64 ≤ c.size := by have := HC.out.2.1; omega
      rw [hp] at b1 b1n hw l1 ⊢
      have l1i : (p : Int) + 64 ≤ (c.size : Int) := by omega
      have l2 : p ≤ p + 64 := by omega
      have l2i : (p : Int) ≤ (p : Int) + 64 := by omega
      have l0 : (0 : Int) ≤ (p : Int) := by omega
      have l3 : (0 : Int) ≤ (p : Int) + 64 := by omega
      have HP := Lib.hid hp
      clear hp
      go_wp2_with fail
      have hes : (c.extract p (p + 64)).size = 64 := by rw [ByteArray.size_extract]; omega
      have hed : (c.extract p (p + 64)).data.toList = (L.drop (64 * k)).take 64 := by
        rw [ByteArray.data_extract, Array.toList_extract, List.extract_eq_take_drop, HC.out.1, HP.out]
        congr 1
        omega
      refine (block_any (feed k beginSt L).1 (feed_w k _ _ beginSt_w) (c.extract p (p + 64)) (by omega) (by omega) _ gt ct _ hS.out.1).mono ?_
      rintro e w2 ⟨g2, c2, rfl, ho2, ht2⟩
      rw [hed, mixP_take, ← feed_fst] at ho2
      have HO2 : Hid (w2.ownsRow w.heap.size 39 1 (.slice (some ⟨g2, 0, none⟩) 8 c2) 8 (u32s (stL (feed (k + 1) beginSt L).1)) ∧ Turn Nope w w2) := ⟨own_lower ho2 hS.out.2.size, hS.out.2.trans ht2⟩
      clear ho2 ht2 hS hes hed b1 b1n l0 l1 l2 l3 l1i l2i
      go_wp2_with fail
      go_roundg (M - (k + 1))
      case measure => have := hm.out; omega
      case rel => exact ⟨k + 1, g2, c2, by rw [hw, ← HP.out]; congr 1, rfl, by have := hm.out; show _ = _; omega, HO2.out⟩
    · obtain rfl : k = M := by have := hm.out; omega
      have b1 : decide (((64 * k : Nat) : Int) < (c.size : Int)) = false := by have := HC.out.2.1; simp; omega
      have b1n : decide (64 * k < c.size) = false := by have := HC.out.2.1; simp; omega
      rw [HR.out] at hS
      rw [hp] at b1 b1n ⊢
      clear hlt hp HR HC
      go_wp2_with fail
      have HB0 : Hid ((wr.alloc (.cells #[] 5)).ownsRow w.heap.size 5 1 (.slice (some ⟨wr.heap.size, 0, none⟩) 0 0) 0 [] ∧ (wr.alloc (.cells #[] 5)).ownsRow w.heap.size 39 1 (.slice (some ⟨gt, 0, none⟩) 8 ct) 8 (u32s (stL R)) ∧ Turn Nope w (wr.alloc (.cells #[] 5))) :=
        ⟨⟨rfl, .inr ⟨wr.heap.size, 0, #[], rfl, hS.out.2.size, blk_new _ _, by omega, by decide, by simp, rfl⟩⟩, own_nope hS.out.1 ((Turn.refl _ _).alloc _), hS.out.2.alloc _⟩
      clear hS
      go_loopg [5, 27] 8 (fun m v5 v27 wx => ∃ (j n : Nat), v27 = .int .i64 (j : Int) ∧ Hid (m + j = 8 ∧ n = 4 * j) ∧ Hid (wx.ownsRow w.heap.size 5 1 v5 n (u8v (((stL R).take j).flatMap wordBytes)) ∧ wx.ownsRow w.heap.size 39 1 (.slice (some ⟨gt, 0, none⟩) 8 ct) 8 (u32s (stL R)) ∧ Turn Nope w wx))
      case atStart => exact ⟨0, 0, rfl, ⟨rfl, rfl⟩, HB0.out⟩
      case round =>
        obtain ⟨j, n, rfl, hj, hS⟩ := hrel
        clear HB0
        by_cases hlt : j < 8
        · have c1 : decide ((j : Int) < 8) = true := by simp; omega
          have c1n : decide (j < 8) = true := by simp; omega
          have j0 : (0 : Int) ≤ (j : Int) := by omega
          have j1 : (j : Int) < 8 := by omega
          have HWJ : Hid (wrap64 ((j : Int) + 1) = (j : Int) + 1) := IntWalk.wrap64_in _ ⟨by omega, by omega⟩
          have cw := row_at hS.out.2.1 (u32s_at (l := stL R) hlt)
          obtain ⟨x, hx⟩ : ∃ x, (stL R).getD j 0 = x := ⟨_, rfl⟩
          rw [hx] at cw
          have HX := Lib.hid hx
          clear hx
          go_wp2_with (at_builtin; go_loud (refine wpList_append_lies _ rfl _ _ _ rfl w.heap.size 5 i5 _ 1 1 Try.underlying27 I5.out.1 I5.out.2.1 I5.out.2.2.1 I5.out.2.2.2 rfl (by omega) u5 n _ rfl (own_nope hS.out.1 ((Turn.refl _ _).alloc _)) ⟨wr.heap.size, 0, none⟩ 4 4 [.int .u8 _, .int .u8 _, .int .u8 _, .int .u8 _] rfl rfl (news_new wr _ 5) (by intro u hu; simp at hu; rcases hu with rfl | rfl | rfl | rfl <;> rfl) (by omega) (by show n + 4 ≤ 9223372036854775807; have := hj.out; omega) (by have := hj.out; omega) (Nat.le_trans hS.out.2.2.size (by simp)) (wr.heap.size + 1) (by simp) ?_; intro g1 cap1 w6 hown hgr hat hlt2; have HO6 := Lib.hid hown; have HG6 := Lib.hid hgr; clear hown hgr hat hlt2))
          go_roundg (8 - (j + 1))
          case measure => have := hj.out; omega
          case rel =>
            have HWX : W32 x := by rw [← HX.out]; exact getD_w (stL_w HWR.out) j
            have h1 := HO6.out
            have ht := (Turn.refl Nope wr).alloc (.cells #[.int .u8 (x.tdiv 16777216 % 256), .int .u8 (x.tdiv 65536 % 256), .int .u8 (x.tdiv 256 % 256), .int .u8 (x.tmod 256 % 256)] 5)
            rw [wordB HWX] at h1
            refine ⟨j + 1, n + 4, by go_num, ⟨by have := hj.out; omega, by have := hj.out; omega⟩, ?_, own_grown (own_nope hS.out.2.1 ht) HG6.out (fun k hk => ?_), (hS.out.2.2.alloc _).growR HG6.out (own_nope hS.out.1 ht) (Nat.le_refl _)⟩
            · have h2 : (stL R).take (j + 1) = (stL R).take j ++ [x] := by
                rw [List.take_add_one, List.getElem?_eq_getElem (show j < (stL R).length from hlt)]
                congr 2
                rw [← HX.out, List.getD_eq_getElem?_getD, List.getElem?_eq_getElem (show j < (stL R).length from hlt)]
                rfl
              rw [h2, List.flatMap_append]
              show w6.ownsRow _ _ _ _ _ (u8v (((stL R).take j).flatMap wordBytes ++ (wordBytes x ++ [])))
              rw [List.append_nil]
              unfold u8v at *
              rw [List.map_append]
              exact h1
            · exact own_apart hS.out.2.1 hS.out.1 (by decide) k hk
        · obtain rfl : j = 8 := by have := hj.out; omega
          obtain rfl : n = 32 := by have := hj.out; omega
          have c1 : decide (((8 : Nat) : Int) < 8) = false := by decide
          clear hlt
          have hO := hS.out.1
          rw [List.take_of_length_le (show (stL R).length ≤ 8 from Nat.le_refl _), ← stBytes_flat] at hO
          obtain ⟨gu, cu, rfl, -⟩ := row_reads hO (by omega)
          have hcv := conv32 _ _ _ _ _ _ hO
          have HT := hS.out.2.2
          clear hS hO
          go_wp2_with fail
          go_ret
          exact ⟨rfl, HT⟩
end Go.Proofs.Ytojfknogdknhkaa
