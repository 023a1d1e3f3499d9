/- The document's words: keys, turn, spread. -/
import Derived.Test.YtojfknogdknhkaaMixw
import Derived.Test.YtojfknogdknhkaaKeep
set_option maxRecDepth 16000
set_option linter.unusedVariables false
set_option linter.unusedSimpArgs false
namespace Go.Proofs.Ytojfknogdknhkaa
open Go.RowKit
variable {w w' : World}
set_option maxHeartbeats 4000000 in
theorem keys_any (w : World) : Calls Try.prog 23 #[] w fun e w' => ∃ v, e = .returned v ∧ w'.ownsRow w.heap.size 39 1 v 64 (u32s keysP) ∧ Turn Nope w w' := by
  go_enter Try.func23, Try.ntmps23
  go_wp2_with fail
  go_ret
  exact ⟨_, rfl, ⟨rfl, .inr ⟨w.heap.size, 64, (u32s keysP).toArray, rfl, Nat.le_refl _, blk_new _ _, by decide, by decide, by decide, rfl⟩⟩, (Turn.refl _ _).alloc _⟩
def rtT (k x : Int) : Int := if k = 2 then rt 4 1073741824 x else if k = 6 then rt 64 67108864 x else if k = 7 then rt 128 33554432 x else if k = 11 then rt 2048 2097152 x else if k = 13 then rt 8192 524288 x else if k = 17 then rt 131072 32768 x else if k = 18 then rt 262144 16384 x else if k = 19 then rt 524288 8192 x else if k = 22 then rt 4194304 1024 x else rt 33554432 128 x
def GoodT (k : Int) : Prop := k = 2 ∨ k = 6 ∨ k = 7 ∨ k = 11 ∨ k = 13 ∨ k = 17 ∨ k = 18 ∨ k = 19 ∨ k = 22 ∨ k = 25
theorem turn_T (k x : Int) (hk : GoodT k) (hx : W32 x) (w : World) : Calls Try.prog 25 #[.int .u32 x, .int .i64 k] w fun e w' => e = .returned (.int .u32 (rtT k x)) ∧ ∃ m, w' = w.drewN m := by
  rcases hk with rfl | rfl | rfl | rfl | rfl | rfl | rfl | rfl | rfl | rfl
  · exact turn_2 x hx w
  · exact turn_6 x hx w
  · exact turn_7 x hx w
  · exact turn_11 x hx w
  · exact turn_13 x hx w
  · exact turn_17 x hx w
  · exact turn_18 x hx w
  · exact turn_19 x hx w
  · exact turn_22 x hx w
  · exact turn_25 x hx w
theorem wordE {s : List UInt8} {i : Nat} {a b c d : Int} (h0 : a = byteAt s (4 * i)) (h1 : b = byteAt s (4 * i + 1)) (h2 : c = byteAt s (4 * i + 2)) (h3 : d = byteAt s (4 * i + 3)) :
    IntKind.u32.wrap (IntKind.u32.wrap (IntKind.u32.wrap (IntKind.u32.wrap (IntKind.u32.wrap a * 16777216) + IntKind.u32.wrap (IntKind.u32.wrap b * 65536)) + IntKind.u32.wrap (IntKind.u32.wrap c * 256)) + IntKind.u32.wrap d) = word0 s i := by
  have b0 := byteAt_b s (4 * i)
  have b1 := byteAt_b s (4 * i + 1)
  have b2 := byteAt_b s (4 * i + 2)
  have b3 := byteAt_b s (4 * i + 3)
  simp only [IntKind.wrap_u32]
  rw [h0, h1, h2, h3]; unfold word0; omega
theorem u32div {x : Int} (hx : W32 x) (k : Int) (hk : 0 < k) : IntKind.u32.wrap (x.tdiv k) = x / k := by
  rw [Int.tdiv_eq_ediv_of_nonneg hx.1, IntKind.wrap_u32]
  have h1 : 0 ≤ x / k := Int.ediv_nonneg hx.1 (Int.le_of_lt hk)
  have h2 : x / k ≤ x := Int.ediv_le_self k hx.1
  have := hx.2
  exact Int.emod_eq_of_lt h1 (by omega)
theorem nextE {l : List Int} {p q16 q15 q7 q2 : Nat} {x16 x15 x7 x2 : Int} (hl : l.length = p) (e16 : p - 16 = q16) (e15 : p - 15 = q15) (e7 : p - 7 = q7) (e2 : p - 2 = q2) (k16 : l.getD q16 0 = x16) (k15 : l.getD q15 0 = x15) (k7 : l.getD q7 0 = x7) (k2 : l.getD q2 0 = x2) (W15 : W32 x15) (W2 : W32 x2) :
    IntKind.u32.wrap (IntKind.u32.wrap (IntKind.u32.wrap (x16 + x7) + bits .xor .u32 (bits .xor .u32 (rtT 7 x15) (rtT 18 x15)) (IntKind.u32.wrap (x15.tdiv 8))) + bits .xor .u32 (bits .xor .u32 (rtT 17 x2) (rtT 19 x2)) (IntKind.u32.wrap (x2.tdiv 1024))) = nextW l := by
  rw [u32div W15 8 (by decide), u32div W2 1024 (by decide)]
  rw [show bits .xor .u32 (bits .xor .u32 (rtT 7 x15) (rtT 18 x15)) (x15 / 8) = sig0 x15 from rfl, show bits .xor .u32 (bits .xor .u32 (rtT 17 x2) (rtT 19 x2)) (x2 / 1024) = sig1 x2 from rfl]
  unfold nextW
  rw [hl, e16, e15, e7, e2, k16, k15, k7, k2]
  generalize sig0 x15 = s0
  generalize sig1 x2 = s1
  simp only [IntKind.wrap_u32]
  omega
set_option maxHeartbeats 8000000 in
theorem spread_any (s : ByteArray) (hs : 64 ≤ s.size) (hmx : s.size ≤ 9223372036854775807) (w : World) :
    Calls Try.prog 24 #[.string s] w fun e w' => ∃ v, e = .returned v ∧ w'.ownsRow w.heap.size 39 1 v 64 (u32s (wordsP s.data.toList)) ∧ Turn Nope w w' := by
  obtain ⟨i39, hi39, hz39, hs39, hb39⟩ := info_parts Try.info39
  have I39 := Lib.hid (And.intro hi39 (And.intro hz39 (And.intro hs39 hb39)))
  clear hi39 hz39 hs39 hb39
  go_enter Try.func24, Try.ntmps24
  go_wp2_with fail
  have HR0 : Hid ((w.alloc (.cells #[] 39)).ownsRow w.heap.size 39 1 (.slice (some ⟨w.heap.size, 0, none⟩) 0 0) 0 (u32s ((first16 s.data.toList).take 0))) := ⟨rfl, .inr ⟨w.heap.size, 0, #[], rfl, Nat.le_refl _, blk_new _ _, by omega, by decide, by simp, rfl⟩⟩
  have HT0 : Hid (Turn Nope w (w.alloc (.cells #[] 39))) := (Turn.refl _ _).alloc _
  go_loopg [3, 4] 16 (fun n u3 v4 wr => ∃ (i : Nat), v4 = .int .i64 (i : Int) ∧ Hid (n + i = 16) ∧ Hid (wr.ownsRow w.heap.size 39 1 u3 i (u32s ((first16 s.data.toList).take i)) ∧ Turn Nope w wr))
  case atStart => exact ⟨0, rfl, rfl, HR0.out, HT0.out⟩
  case round =>
    obtain ⟨i, rfl, hn, hS⟩ := hrel
    clear HR0 HT0
    by_cases hlt : i < 16
    · have b1 : decide ((i : Int) < 16) = true := by simp; omega
      have b1n : decide (i < 16) = true := by simp; omega
      have HW : Hid (wrap64 ((i : Int) + 1) = (i : Int) + 1) := IntWalk.wrap64_in _ ⟨by omega, by omega⟩
      obtain ⟨j, hj⟩ : ∃ j : Nat, 4 * i = j := ⟨_, rfl⟩
      have hw0 : wrap64 (4 * (i : Int)) = (j : Int) := by have := IntWalk.wrap64_in (4 * (i : Int)) ⟨by omega, by omega⟩; rw [this]; omega
      have hw1 : wrap64 ((j : Int) + 1) = ((j + 1 : Nat) : Int) := by have := IntWalk.wrap64_in ((j : Int) + 1) ⟨by omega, by omega⟩; rw [this]; omega
      have hw2 : wrap64 ((j : Int) + 2) = ((j + 2 : Nat) : Int) := by have := IntWalk.wrap64_in ((j : Int) + 2) ⟨by omega, by omega⟩; rw [this]; omega
      have hw3 : wrap64 ((j : Int) + 3) = ((j + 3 : Nat) : Int) := by have := IntWalk.wrap64_in ((j : Int) + 3) ⟨by omega, by omega⟩; rw [this]; omega
      have hv0 : IntKind.i64.wrap (4 * (i : Int)) = (j : Int) := by rw [IntKind.wrap_i64]; omega
      have hv1 : IntKind.i64.wrap ((j : Int) + 1) = (j : Int) + 1 := by rw [IntKind.wrap_i64]; omega
      have hv2 : IntKind.i64.wrap ((j : Int) + 2) = (j : Int) + 2 := by rw [IntKind.wrap_i64]; omega
      have hv3 : IntKind.i64.wrap ((j : Int) + 3) = (j : Int) + 3 := by rw [IntKind.wrap_i64]; omega
      have j0 : (0 : Int) ≤ (j : Int) := by omega
      have j1 : (0 : Int) ≤ (j : Int) + 1 := by omega
      have j2 : (0 : Int) ≤ (j : Int) + 2 := by omega
      have j3 : (0 : Int) ≤ (j : Int) + 3 := by omega
      have k0 : (j : Int) < (s.size : Int) := by omega
      have k1 : (j : Int) + 1 < (s.size : Int) := by omega
      have k2 : (j : Int) + 2 < (s.size : Int) := by omega
      have k3 : (j : Int) + 3 < (s.size : Int) := by omega
      have l0 : j < s.size := by omega
      have l1 : j + 1 < s.size := by omega
      have l2 : j + 2 < s.size := by omega
      have l3 : j + 3 < s.size := by omega
      have HJ := Lib.hid hj
      have HHS := Lib.hid (And.intro hs hmx)
      clear hj hs hmx hw0 hw1 hw2 hw3
      go_wp2_with fail
      refine wp_region_held_drew (S := fun W => True) (by kernel_rfl) trivial (fun hHeld => ?_)
      refine' wpAnyH_take (i := 0) (v := _) (by simp only [List.getElem?_toArray, List.getElem?_cons_succ, List.getElem?_cons_zero]; rfl) (by kernel_rfl) (by kernel_rfl) (by kernel_rfl) (by intro _ _ _ h; exact h) (Or.inl ⟨by rfl, ?hya0⟩) hHeld ?resta0
      case hya0 => (intro w hSw; (try dsimp only at hSw); go_simp; try (with_reducible rfl))
      simp only [Act.put, List.setIfInBounds_toArray, List.set_cons_zero, List.set_cons_succ]
      refine' wpAnyH_take (i := 1) (v := _) (by simp only [List.getElem?_toArray, List.getElem?_cons_succ, List.getElem?_cons_zero]; rfl) (by kernel_rfl) (by kernel_rfl) (by kernel_rfl) (by intro _ _ _ h; exact h) (Or.inl ⟨by rfl, ?hya1⟩) hHeld ?resta1
      case hya1 => (intro w hSw; (try dsimp only at hSw); go_simp; try (with_reducible rfl))
      simp only [Act.put, List.setIfInBounds_toArray, List.set_cons_zero, List.set_cons_succ]
      refine' wpAnyH_take (i := 2) (v := _) (by simp only [List.getElem?_toArray, List.getElem?_cons_succ, List.getElem?_cons_zero]; rfl) (by kernel_rfl) (by kernel_rfl) (by kernel_rfl) (by intro _ _ _ h; exact h) (Or.inl ⟨by rfl, ?hya2⟩) hHeld ?resta2
      case hya2 => (intro w hSw; (try dsimp only at hSw); go_simp; try (with_reducible rfl))
      simp only [Act.put, List.setIfInBounds_toArray, List.set_cons_zero, List.set_cons_succ]
      refine' wpAnyH_take (i := 3) (v := _) (by simp only [List.getElem?_toArray, List.getElem?_cons_succ, List.getElem?_cons_zero]; rfl) (by kernel_rfl) (by kernel_rfl) (by kernel_rfl) (by intro _ _ _ h; exact h) (Or.inl ⟨by rfl, ?hya3⟩) hHeld ?resta3
      case hya3 => (intro w hSw; (try dsimp only at hSw); go_simp; try (with_reducible rfl))
      simp only [Act.put, List.setIfInBounds_toArray, List.set_cons_zero, List.set_cons_succ]
      refine' wpAnyH_take (i := 4) (v := _) (by simp only [List.getElem?_toArray, List.getElem?_cons_succ, List.getElem?_cons_zero]; rfl) (by kernel_rfl) (by kernel_rfl) (by kernel_rfl) (by intro _ _ _ h; exact h) (Or.inl ⟨by rfl, ?hya4⟩) hHeld ?resta4
      case hya4 => (intro w hSw; (try dsimp only at hSw); go_simp; try (with_reducible rfl))
      simp only [Act.put, List.setIfInBounds_toArray, List.set_cons_zero, List.set_cons_succ]
      refine' wpAnyH_take (i := 5) (v := _) (by simp only [List.getElem?_toArray, List.getElem?_cons_succ, List.getElem?_cons_zero]; rfl) (by kernel_rfl) (by kernel_rfl) (by kernel_rfl) (by intro _ _ _ h; exact h) (Or.inl ⟨by rfl, ?hya5⟩) hHeld ?resta5
      case hya5 => (intro w hSw; (try dsimp only at hSw); go_simp; try (with_reducible rfl))
      simp only [Act.put, List.setIfInBounds_toArray, List.set_cons_zero, List.set_cons_succ]
      refine' wpAnyH_take (i := 6) (v := _) (by simp only [List.getElem?_toArray, List.getElem?_cons_succ, List.getElem?_cons_zero]; rfl) (by kernel_rfl) (by kernel_rfl) (by kernel_rfl) (by intro _ _ _ h; exact h) (Or.inl ⟨by rfl, ?hya6⟩) hHeld ?resta6
      case hya6 => (intro w hSw; (try dsimp only at hSw); go_simp; try (with_reducible rfl))
      simp only [Act.put, List.setIfInBounds_toArray, List.set_cons_zero, List.set_cons_succ]
      refine' wpAnyH_take (i := 7) (v := _) (by simp only [List.getElem?_toArray, List.getElem?_cons_succ, List.getElem?_cons_zero]; rfl) (by kernel_rfl) (by kernel_rfl) (by kernel_rfl) (by intro _ _ _ h; exact h) (Or.inl ⟨by rfl, ?hya7⟩) hHeld ?resta7
      case hya7 => (intro w hSw; (try dsimp only at hSw); go_simp; try (with_reducible rfl))
      simp only [Act.put, List.setIfInBounds_toArray, List.set_cons_zero, List.set_cons_succ]
      refine' wpAnyH_take (i := 8) (v := _) (by simp only [List.getElem?_toArray, List.getElem?_cons_succ, List.getElem?_cons_zero]; rfl) (by kernel_rfl) (by kernel_rfl) (by kernel_rfl) (by intro _ _ _ h; exact h) (Or.inl ⟨by rfl, ?hya8⟩) hHeld ?resta8
      case hya8 => (intro w hSw; (try dsimp only at hSw); go_simp; try (with_reducible rfl))
      simp only [Act.put, List.setIfInBounds_toArray, List.set_cons_zero, List.set_cons_succ]
      refine' wpAnyH_take (i := 9) (v := _) (by simp only [List.getElem?_toArray, List.getElem?_cons_succ, List.getElem?_cons_zero]; rfl) (by kernel_rfl) (by kernel_rfl) (by kernel_rfl) (by intro _ _ _ h; exact h) (Or.inl ⟨by rfl, ?hya9⟩) hHeld ?resta9
      case hya9 => (intro w hSw; (try dsimp only at hSw); go_simp; try (with_reducible rfl))
      simp only [Act.put, List.setIfInBounds_toArray, List.set_cons_zero, List.set_cons_succ]
      refine' wpAnyH_take (i := 10) (v := _) (by simp only [List.getElem?_toArray, List.getElem?_cons_succ, List.getElem?_cons_zero]; rfl) (by kernel_rfl) (by kernel_rfl) (by kernel_rfl) (by intro _ _ _ h; exact h) (Or.inl ⟨by rfl, ?hya10⟩) hHeld ?resta10
      case hya10 => (intro w hSw; (try dsimp only at hSw); go_simp; try (with_reducible rfl))
      simp only [Act.put, List.setIfInBounds_toArray, List.set_cons_zero, List.set_cons_succ]
      refine' wpAnyH_take (i := 11) (v := _) (by simp only [List.getElem?_toArray, List.getElem?_cons_succ, List.getElem?_cons_zero]; rfl) (by kernel_rfl) (by kernel_rfl) (by kernel_rfl) (by intro _ _ _ h; exact h) (Or.inl ⟨by rfl, ?hya11⟩) hHeld ?resta11
      case hya11 => (intro w hSw; (try dsimp only at hSw); go_simp; try (with_reducible rfl))
      simp only [Act.put, List.setIfInBounds_toArray, List.set_cons_zero, List.set_cons_succ]
      refine' wpAnyH_take (i := 12) (v := _) (by simp only [List.getElem?_toArray, List.getElem?_cons_succ, List.getElem?_cons_zero]; rfl) (by kernel_rfl) (by kernel_rfl) (by kernel_rfl) (by intro _ _ _ h; exact h) (Or.inl ⟨by rfl, ?hya12⟩) hHeld ?resta12
      case hya12 => (intro w hSw; (try dsimp only at hSw); go_simp; try (with_reducible rfl))
      simp only [Act.put, List.setIfInBounds_toArray, List.set_cons_zero, List.set_cons_succ]
      refine' wpAnyH_take (i := 13) (v := _) (by simp only [List.getElem?_toArray, List.getElem?_cons_succ, List.getElem?_cons_zero]; rfl) (by kernel_rfl) (by kernel_rfl) (by kernel_rfl) (by intro _ _ _ h; exact h) (Or.inl ⟨by rfl, ?hya13⟩) hHeld ?resta13
      case hya13 => (intro w hSw; (try dsimp only at hSw); go_simp; try (with_reducible rfl))
      simp only [Act.put, List.setIfInBounds_toArray, List.set_cons_zero, List.set_cons_succ]
      refine' wpAnyH_take (i := 14) (v := _) (by simp only [List.getElem?_toArray, List.getElem?_cons_succ, List.getElem?_cons_zero]; rfl) (by kernel_rfl) (by kernel_rfl) (by kernel_rfl) (by intro _ _ _ h; exact h) (Or.inl ⟨by rfl, ?hya14⟩) hHeld ?resta14
      case hya14 => (intro w hSw; (try dsimp only at hSw); go_simp; try (with_reducible rfl))
      simp only [Act.put, List.setIfInBounds_toArray, List.set_cons_zero, List.set_cons_succ]
      refine' wpAnyH_take (i := 15) (v := _) (by simp only [List.getElem?_toArray, List.getElem?_cons_succ, List.getElem?_cons_zero]; rfl) (by kernel_rfl) (by kernel_rfl) (by kernel_rfl) (by intro _ _ _ h; exact h) (Or.inl ⟨by rfl, ?hya15⟩) hHeld ?resta15
      case hya15 => (intro w hSw; (try dsimp only at hSw); go_simp; try (with_reducible rfl))
      simp only [Act.put, List.setIfInBounds_toArray, List.set_cons_zero, List.set_cons_succ]
      refine' wpAnyH_take (i := 16) (v := _) (by simp only [List.getElem?_toArray, List.getElem?_cons_succ, List.getElem?_cons_zero]; rfl) (by kernel_rfl) (by kernel_rfl) (by kernel_rfl) (by intro _ _ _ h; exact h) (Or.inl ⟨by rfl, ?hya16⟩) hHeld ?resta16
      case hya16 => (intro w hSw; (try dsimp only at hSw); go_simp; try (with_reducible rfl))
      simp only [Act.put, List.setIfInBounds_toArray, List.set_cons_zero, List.set_cons_succ]
      refine' wpAnyH_take (i := 17) (v := _) (by simp only [List.getElem?_toArray, List.getElem?_cons_succ, List.getElem?_cons_zero]; rfl) (by kernel_rfl) (by kernel_rfl) (by kernel_rfl) (by intro _ _ _ h; exact h) (Or.inl ⟨by rfl, ?hya17⟩) hHeld ?resta17
      case hya17 => (intro w hSw; (try dsimp only at hSw); go_simp; try (with_reducible rfl))
      simp only [Act.put, List.setIfInBounds_toArray, List.set_cons_zero, List.set_cons_succ]
      refine' wpAnyH_take (i := 18) (v := _) (by simp only [List.getElem?_toArray, List.getElem?_cons_succ, List.getElem?_cons_zero]; rfl) (by kernel_rfl) (by kernel_rfl) (by kernel_rfl) (by intro _ _ _ h; exact h) (Or.inl ⟨by rfl, ?hya18⟩) hHeld ?resta18
      case hya18 => (intro w hSw; (try dsimp only at hSw); go_simp; try (with_reducible rfl))
      simp only [Act.put, List.setIfInBounds_toArray, List.set_cons_zero, List.set_cons_succ]
      refine' wpAnyH_take (i := 19) (v := _) (by simp only [List.getElem?_toArray, List.getElem?_cons_succ, List.getElem?_cons_zero]; rfl) (by kernel_rfl) (by kernel_rfl) (by kernel_rfl) (by intro _ _ _ h; exact h) (Or.inl ⟨by rfl, ?hya19⟩) hHeld ?resta19
      case hya19 => (intro w hSw; (try dsimp only at hSw); go_simp; try (with_reducible rfl))
      simp only [Act.put, List.setIfInBounds_toArray, List.set_cons_zero, List.set_cons_succ]
      refine' wpAnyH_take (i := 20) (v := _) (by simp only [List.getElem?_toArray, List.getElem?_cons_succ, List.getElem?_cons_zero]; rfl) (by kernel_rfl) (by kernel_rfl) (by kernel_rfl) (by intro _ _ _ h; exact h) (Or.inl ⟨by rfl, ?hya20⟩) hHeld ?resta20
      case hya20 => (intro w hSw; (try dsimp only at hSw); go_simp; try (with_reducible rfl))
      simp only [Act.put, List.setIfInBounds_toArray, List.set_cons_zero, List.set_cons_succ]
      refine' wpAnyH_take (i := 21) (v := _) (by simp only [List.getElem?_toArray, List.getElem?_cons_succ, List.getElem?_cons_zero]; rfl) (by kernel_rfl) (by kernel_rfl) (by kernel_rfl) (by intro _ _ _ h; exact h) (Or.inl ⟨by rfl, ?hya21⟩) hHeld ?resta21
      case hya21 => (intro w hSw; (try dsimp only at hSw); go_simp; try (with_reducible rfl))
      simp only [Act.put, List.setIfInBounds_toArray, List.set_cons_zero, List.set_cons_succ]
      refine' wpAnyH_take (i := 22) (v := _) (by simp only [List.getElem?_toArray, List.getElem?_cons_succ, List.getElem?_cons_zero]; rfl) (by kernel_rfl) (by kernel_rfl) (by kernel_rfl) (by intro _ _ _ h; exact h) (Or.inl ⟨by rfl, ?hya22⟩) hHeld ?resta22
      case hya22 => (intro w hSw; (try dsimp only at hSw); go_simp; try (with_reducible rfl))
      simp only [Act.put, List.setIfInBounds_toArray, List.set_cons_zero, List.set_cons_succ]
      refine' wpAnyH_take (i := 23) (v := _) (by simp only [List.getElem?_toArray, List.getElem?_cons_succ, List.getElem?_cons_zero]; rfl) (by kernel_rfl) (by kernel_rfl) (by kernel_rfl) (by intro _ _ _ h; exact h) (Or.inl ⟨by rfl, ?hya23⟩) hHeld ?resta23
      case hya23 => (intro w hSw; (try dsimp only at hSw); go_simp; try (with_reducible rfl))
      simp only [Act.put, List.setIfInBounds_toArray, List.set_cons_zero, List.set_cons_succ]
      refine' wpAnyH_take (i := 24) (v := _) (by simp only [List.getElem?_toArray, List.getElem?_cons_succ, List.getElem?_cons_zero]; rfl) (by kernel_rfl) (by kernel_rfl) (by kernel_rfl) (by intro _ _ _ h; exact h) (Or.inl ⟨by rfl, ?hya24⟩) hHeld ?resta24
      case hya24 => (intro w hSw; (try dsimp only at hSw); go_simp; try (with_reducible rfl))
      simp only [Act.put, List.setIfInBounds_toArray, List.set_cons_zero, List.set_cons_succ]
      refine' wpAnyH_take (i := 25) (v := _) (by simp only [List.getElem?_toArray, List.getElem?_cons_succ, List.getElem?_cons_zero]; rfl) (by kernel_rfl) (by kernel_rfl) (by kernel_rfl) (by intro _ _ _ h; exact h) (Or.inl ⟨by rfl, ?hya25⟩) hHeld ?resta25
      case hya25 => (intro w hSw; (try dsimp only at hSw); go_simp; try (with_reducible rfl))
      simp only [Act.put, List.setIfInBounds_toArray, List.set_cons_zero, List.set_cons_succ]
      refine' wpAnyH_take (i := 26) (v := _) (by simp only [List.getElem?_toArray, List.getElem?_cons_succ, List.getElem?_cons_zero]; rfl) (by kernel_rfl) (by kernel_rfl) (by kernel_rfl) (by intro _ _ _ h; exact h) (Or.inl ⟨by rfl, ?hya26⟩) hHeld ?resta26
      case hya26 => (intro w hSw; (try dsimp only at hSw); go_simp; try (with_reducible rfl))
      simp only [Act.put, List.setIfInBounds_toArray, List.set_cons_zero, List.set_cons_succ]
      refine' wpAnyH_take (i := 27) (v := _) (by simp only [List.getElem?_toArray, List.getElem?_cons_succ, List.getElem?_cons_zero]; rfl) (by kernel_rfl) (by kernel_rfl) (by kernel_rfl) (by intro _ _ _ h; exact h) (Or.inl ⟨by rfl, ?hya27⟩) hHeld ?resta27
      case hya27 => (intro w hSw; (try dsimp only at hSw); go_simp; try (with_reducible rfl))
      simp only [Act.put, List.setIfInBounds_toArray, List.set_cons_zero, List.set_cons_succ]
      refine' wpAnyH_take (i := 28) (v := _) (by simp only [List.getElem?_toArray, List.getElem?_cons_succ, List.getElem?_cons_zero]; rfl) (by kernel_rfl) (by kernel_rfl) (by kernel_rfl) (by intro _ _ _ h; exact h) (Or.inl ⟨by rfl, ?hya28⟩) hHeld ?resta28
      case hya28 => (intro w hSw; (try dsimp only at hSw); go_simp; try (with_reducible rfl))
      simp only [Act.put, List.setIfInBounds_toArray, List.set_cons_zero, List.set_cons_succ]
      refine' wpAnyH_take (i := 29) (v := _) (by simp only [List.getElem?_toArray, List.getElem?_cons_succ, List.getElem?_cons_zero]; rfl) (by kernel_rfl) (by kernel_rfl) (by kernel_rfl) (by intro _ _ _ h; exact h) (Or.inl ⟨by rfl, ?hya29⟩) hHeld ?resta29
      case hya29 => (intro w hSw; (try dsimp only at hSw); go_simp; try (with_reducible rfl))
      simp only [Act.put, List.setIfInBounds_toArray, List.set_cons_zero, List.set_cons_succ]
      refine wpAnyH_ready (rs := [30]) (by kernel_rfl) (by simp) (AllReadyH.cons (by simp only [List.getElem?_toArray, List.getElem?_cons_succ, List.getElem?_cons_zero]; rfl) (fun K hK => ?_) AllReadyH.nil)
      go_simp
      refine hK.out _ _ ?_ (fun hHeld => ?_)
      · trivial
      clear hK K
      try simp only [Act.put, List.setIfInBounds_toArray, List.set_cons_zero, List.set_cons_succ]
      refine wpAnyH_ready (rs := [31]) (by kernel_rfl) (by simp) (AllReadyH.cons (by simp only [List.getElem?_toArray, List.getElem?_cons_succ, List.getElem?_cons_zero]; rfl) (fun K hK => ?_) AllReadyH.nil)
      refine step_append_lies _ rfl (.tmp 13) (.tmp 43) 40 rfl w.heap.size 39 i39 _ 1 4 Try.underlying40 I39.out.1 I39.out.2.1 I39.out.2.2.1 I39.out.2.2.2 rfl (by omega) u3 i (u32s ((first16 s.data.toList).take i)) rfl (own_nope hS.out.1 ((Turn.refl _ _).alloc _).drew) ⟨wr.heap.size, 0, none⟩ 1 1 [.int .u32 _] rfl rfl (news_new wr _ 39) (by intro u hu; simp at hu; subst hu; rfl) (by omega) (by show i + 1 ≤ 9223372036854775807; omega) (by omega) (Nat.le_trans hS.out.2.size (by simp)) (wr.heap.size + 1) (by simp) ?_
      intro g1 cap1 w6 hown hgr hat hlt2
      have HO6 : Hid (∃ E : Int, E = word0 s.data.toList i ∧ w6.ownsRow w.heap.size 39 1 (.slice (some ⟨g1, 0, none⟩) (i + 1) cap1) (i + 1) (u32s ((first16 s.data.toList).take i) ++ [.int .u32 E])) := ⟨_, wordE (byte_at _ (by have := HJ.out; omega)) (byte_at _ (by have := HJ.out; omega)) (byte_at _ (by have := HJ.out; omega)) (byte_at _ (by have := HJ.out; omega)), hown⟩
      have HG6 : Hid (Turn Nope w w6) := ((hS.out.2.alloc _).drew).growR hgr (own_nope hS.out.1 ((Turn.refl _ _).alloc _).drew) (Nat.le_refl _)
      clear hown hgr hat hlt2
      refine hK.out _ _ ?_ (fun hHeld => ?_)
      · trivial
      clear hK K
      try simp only [Act.put, List.setIfInBounds_toArray, List.set_cons_zero, List.set_cons_succ]
      refine' wpAnyH_take (i := 32) (v := _) (by simp only [List.getElem?_toArray, List.getElem?_cons_succ, List.getElem?_cons_zero]; rfl) (by kernel_rfl) (by kernel_rfl) (by kernel_rfl) (by intro _ _ _ h; exact h) (Or.inl ⟨by rfl, ?hya32⟩) hHeld ?resta32
      case hya32 => (intro w hSw; (try dsimp only at hSw); go_simp; try (with_reducible rfl))
      simp only [Act.put, List.setIfInBounds_toArray, List.set_cons_zero, List.set_cons_succ]
      refine wpAnyH_done (by kernel_rfl) ?_ _
      go_wp2_with fail
      go_roundg (16 - (i + 1))
      case measure => have := hn.out; omega
      case rel =>
        refine ⟨i + 1, by go_num, by have := hn.out; show _ = _; omega, ?_, HG6.out⟩
        obtain ⟨E, hE, h1⟩ := HO6.out
        rw [hE] at h1
        have h2 : (first16 s.data.toList).take (i + 1) = (first16 s.data.toList).take i ++ [word0 s.data.toList i] := by
          unfold first16
          rw [← List.map_take, ← List.map_take, List.take_range, List.take_range, Nat.min_eq_left (by omega), Nat.min_eq_left (by omega), List.range_succ, List.map_append]; rfl
        rw [h2]
        unfold u32s at *
        rw [List.map_append]
        exact h1
    · obtain rfl : i = 16 := by have := hn.out; omega
      have b1 : decide (((16 : Nat) : Int) < 16) = false := by decide
      clear hlt
      rw [List.take_of_length_le (by simp [first16])] at hS
      go_wp2_with fail
      go_loopg [3, 5] 48 (fun n u3 v7 wr => ∃ (p : Nat) (l : List Int), v7 = .int .i64 (p : Int) ∧ Hid (n + p = 64 ∧ 16 ≤ p ∧ l.length = p ∧ l = growW (p - 16) (first16 s.data.toList)) ∧ Hid (wr.ownsRow w.heap.size 39 1 u3 p (u32s l) ∧ Turn Nope w wr))
      case atStart => exact ⟨16, first16 s.data.toList, rfl, ⟨rfl, by decide, rfl, rfl⟩, hS.out⟩
      case round =>
        obtain ⟨p, l, rfl, hm, hR⟩ := hrel
        clear hS
        obtain ⟨hn0, h16, hl, hlg⟩ := hm.out
        have HLG := Lib.hid hlg
        have hW : ∀ x ∈ l, W32 x := by rw [hlg]; exact growW_w _ _ (first16_w _)
        have HW := Lib.hid hW
        clear hlg hW
        by_cases hlt : p < 64
        · have b1 : decide ((p : Int) < 64) = true := by simp; omega
          have b1n : decide (p < 64) = true := by simp; omega
          obtain ⟨q15, e15⟩ : ∃ q, p - 15 = q := ⟨_, rfl⟩
          obtain ⟨q2, e2⟩ : ∃ q, p - 2 = q := ⟨_, rfl⟩
          obtain ⟨q16, e16⟩ : ∃ q, p - 16 = q := ⟨_, rfl⟩
          obtain ⟨q7, e7⟩ : ∃ q, p - 7 = q := ⟨_, rfl⟩
          have hw15 : IntKind.i64.wrap ((p : Int) - 15) = (q15 : Int) := by rw [IntKind.wrap_i64]; omega
          have hw2 : IntKind.i64.wrap ((p : Int) - 2) = (q2 : Int) := by rw [IntKind.wrap_i64]; omega
          have hw16 : IntKind.i64.wrap ((p : Int) - 16) = (q16 : Int) := by rw [IntKind.wrap_i64]; omega
          have hw7 : IntKind.i64.wrap ((p : Int) - 7) = (q7 : Int) := by rw [IntKind.wrap_i64]; omega
          have ww15 : wrap64 ((p : Int) - 15) = (q15 : Int) := by have := IntWalk.wrap64_in ((p : Int) - 15) ⟨by omega, by omega⟩; rw [this]; omega
          have ww2 : wrap64 ((p : Int) - 2) = (q2 : Int) := by have := IntWalk.wrap64_in ((p : Int) - 2) ⟨by omega, by omega⟩; rw [this]; omega
          have HWK : Hid (wrap64 ((p : Int) + 1) = (p : Int) + 1) := IntWalk.wrap64_in _ ⟨by omega, by omega⟩
          obtain ⟨g, cap, rfl, hrd⟩ := row_reads hR.out.1 (by omega)
          obtain ⟨x15, ex15⟩ : ∃ x, l.getD q15 0 = x := ⟨_, rfl⟩
          obtain ⟨x2, ex2⟩ : ∃ x, l.getD q2 0 = x := ⟨_, rfl⟩
          obtain ⟨x16, ex16⟩ : ∃ x, l.getD q16 0 = x := ⟨_, rfl⟩
          obtain ⟨x7, ex7⟩ : ∃ x, l.getD q7 0 = x := ⟨_, rfl⟩
          have c15 := hrd q15 _ (u32s_at (by omega))
          have c2 := hrd q2 _ (u32s_at (by omega))
          have c16 := hrd q16 _ (u32s_at (by omega))
          have c7 := hrd q7 _ (u32s_at (by omega))
          have W15 : Hid (W32 x15) := ex15 ▸ getD_w HW.out q15
          have W2 : Hid (W32 x2) := ex2 ▸ getD_w HW.out q2
          rw [ex15] at c15
          rw [ex2] at c2
          rw [ex16] at c16
          rw [ex7] at c7
          have HEX := Lib.hid (And.intro ex15 (And.intro ex2 (And.intro ex16 ex7)))
          have j15 : (0 : Int) ≤ (q15 : Int) ∧ (q15 : Int) < (p : Int) := by omega
          have j2 : (0 : Int) ≤ (q2 : Int) ∧ (q2 : Int) < (p : Int) := by omega
          have j16 : (0 : Int) ≤ (q16 : Int) ∧ (q16 : Int) < (p : Int) := by omega
          have j7 : (0 : Int) ≤ (q7 : Int) ∧ (q7 : Int) < (p : Int) := by omega
          have HE := Lib.hid (And.intro e15 (And.intro e2 (And.intro e16 e7)))
          have HN := Lib.hid (And.intro hn0 (And.intro h16 hl))
          clear ex15 ex2 ex16 ex7 e15 e2 e16 e7 hrd hn0 h16 hl
          go_wp2_with fail
          clear ww15 ww2 hw15 hw2 c15 c2
          refine wp_region_held_drew (S := fun W => W.cell? ⟨g, q16, none⟩ = some (.int .u32 x16) ∧ W.cell? ⟨g, q7, none⟩ = some (.int .u32 x7)) (by kernel_rfl) ⟨c16, c7⟩ (fun hHeld => ?_)
          refine' wpAnyH_take (i := 0) (v := _) (by simp only [List.getElem?_toArray, List.getElem?_cons_succ, List.getElem?_cons_zero]; rfl) (by kernel_rfl) (by kernel_rfl) (by kernel_rfl) (by intro _ _ _ h; exact h) (Or.inl ⟨by rfl, ?hyb0⟩) hHeld ?restb0
          case hyb0 => (intro w hSw; (try dsimp only at hSw); go_simp; try (with_reducible rfl))
          simp only [Act.put, List.setIfInBounds_toArray, List.set_cons_zero, List.set_cons_succ]
          refine' wpAnyH_take (i := 1) (v := _) (by simp only [List.getElem?_toArray, List.getElem?_cons_succ, List.getElem?_cons_zero]; rfl) (by kernel_rfl) (by kernel_rfl) (by kernel_rfl) (by intro _ _ _ h; exact h) (Or.inl ⟨by rfl, ?hyb1⟩) hHeld ?restb1
          case hyb1 => (intro w hSw; (try dsimp only at hSw); go_simp; try (with_reducible rfl))
          simp only [Act.put, List.setIfInBounds_toArray, List.set_cons_zero, List.set_cons_succ]
          refine' wpAnyH_take (i := 2) (v := _) (by simp only [List.getElem?_toArray, List.getElem?_cons_succ, List.getElem?_cons_zero]; rfl) (by kernel_rfl) (by kernel_rfl) (by kernel_rfl) (by intro _ _ _ h; exact h) (Or.inl ⟨by rfl, ?hyb2⟩) hHeld ?restb2
          case hyb2 => (intro w hSw; (try dsimp only at hSw); go_simp; try (with_reducible rfl))
          simp only [Act.put, List.setIfInBounds_toArray, List.set_cons_zero, List.set_cons_succ]
          refine' wpAnyH_take (i := 3) (v := _) (by simp only [List.getElem?_toArray, List.getElem?_cons_succ, List.getElem?_cons_zero]; rfl) (by kernel_rfl) (by kernel_rfl) (by kernel_rfl) (by intro _ _ _ h; exact h) (Or.inl ⟨by rfl, ?hyb3⟩) hHeld ?restb3
          case hyb3 => (intro w hSw; (try dsimp only at hSw); go_simp; try (with_reducible rfl))
          simp only [Act.put, List.setIfInBounds_toArray, List.set_cons_zero, List.set_cons_succ]
          refine' wpAnyH_take (i := 4) (v := _) (by simp only [List.getElem?_toArray, List.getElem?_cons_succ, List.getElem?_cons_zero]; rfl) (by kernel_rfl) (by kernel_rfl) (by kernel_rfl) (by intro _ _ _ h; exact h) (Or.inl ⟨by rfl, ?hyb4⟩) hHeld ?restb4
          case hyb4 => (intro w hSw; (try dsimp only at hSw); go_simp; try (with_reducible rfl))
          simp only [Act.put, List.setIfInBounds_toArray, List.set_cons_zero, List.set_cons_succ]
          refine' wpAnyH_take (i := 5) (v := _) (by simp only [List.getElem?_toArray, List.getElem?_cons_succ, List.getElem?_cons_zero]; rfl) (by kernel_rfl) (by kernel_rfl) (by kernel_rfl) (by intro _ _ _ h; exact h) (Or.inl ⟨by rfl, ?hyb5⟩) hHeld ?restb5
          case hyb5 => (intro w hSw; (try dsimp only at hSw); go_simp; try (with_reducible rfl))
          simp only [Act.put, List.setIfInBounds_toArray, List.set_cons_zero, List.set_cons_succ]
          refine' wpAnyH_take (i := 6) (v := _) (by simp only [List.getElem?_toArray, List.getElem?_cons_succ, List.getElem?_cons_zero]; rfl) (by kernel_rfl) (by kernel_rfl) (by kernel_rfl) (by intro _ _ _ h; exact h) (Or.inl ⟨by rfl, ?hyb6⟩) hHeld ?restb6
          case hyb6 => (intro w hSw; (try dsimp only at hSw); go_simp; try (with_reducible rfl))
          simp only [Act.put, List.setIfInBounds_toArray, List.set_cons_zero, List.set_cons_succ]
          refine' wpAnyH_take (i := 7) (v := _) (by simp only [List.getElem?_toArray, List.getElem?_cons_succ, List.getElem?_cons_zero]; rfl) (by kernel_rfl) (by kernel_rfl) (by kernel_rfl) (by intro _ _ _ h; exact h) (Or.inl ⟨by rfl, ?hyb7⟩) hHeld ?restb7
          case hyb7 => (intro w hSw; (try dsimp only at hSw); go_simp; try (with_reducible rfl))
          simp only [Act.put, List.setIfInBounds_toArray, List.set_cons_zero, List.set_cons_succ]
          refine' wpAnyH_take (i := 8) (v := _) (by simp only [List.getElem?_toArray, List.getElem?_cons_succ, List.getElem?_cons_zero]; rfl) (by kernel_rfl) (by kernel_rfl) (by kernel_rfl) (by intro _ _ _ h; exact h) (Or.inl ⟨by rfl, ?hyb8⟩) hHeld ?restb8
          case hyb8 => (intro w hSw; (try dsimp only at hSw); go_simp; try (with_reducible rfl))
          simp only [Act.put, List.setIfInBounds_toArray, List.set_cons_zero, List.set_cons_succ]
          refine' wpAnyH_take (i := 9) (v := _) (by simp only [List.getElem?_toArray, List.getElem?_cons_succ, List.getElem?_cons_zero]; rfl) (by kernel_rfl) (by kernel_rfl) (by kernel_rfl) (by intro _ _ _ h; exact h) (Or.inl ⟨by rfl, ?hyb9⟩) hHeld ?restb9
          case hyb9 => (intro w hSw; (try dsimp only at hSw); go_simp; try (with_reducible rfl))
          simp only [Act.put, List.setIfInBounds_toArray, List.set_cons_zero, List.set_cons_succ]
          refine' wpAnyH_take (i := 10) (v := _) (by simp only [List.getElem?_toArray, List.getElem?_cons_succ, List.getElem?_cons_zero]; rfl) (by kernel_rfl) (by kernel_rfl) (by kernel_rfl) (by intro _ _ _ h; exact h) (Or.inl ⟨by rfl, ?hyb10⟩) hHeld ?restb10
          case hyb10 => (intro w hSw; (try dsimp only at hSw); go_simp; try (with_reducible rfl))
          simp only [Act.put, List.setIfInBounds_toArray, List.set_cons_zero, List.set_cons_succ]
          refine' wpAnyH_take (i := 11) (v := _) (by simp only [List.getElem?_toArray, List.getElem?_cons_succ, List.getElem?_cons_zero]; rfl) (by kernel_rfl) (by kernel_rfl) (by kernel_rfl) (by intro _ _ _ h; exact h) (Or.inl ⟨by rfl, ?hyb11⟩) hHeld ?restb11
          case hyb11 => (intro w hSw; (try dsimp only at hSw); go_simp; try (with_reducible rfl))
          simp only [Act.put, List.setIfInBounds_toArray, List.set_cons_zero, List.set_cons_succ]
          refine' wpAnyH_take (i := 12) (v := _) (by simp only [List.getElem?_toArray, List.getElem?_cons_succ, List.getElem?_cons_zero]; rfl) (by kernel_rfl) (by kernel_rfl) (by kernel_rfl) (by intro _ _ _ h; exact h) (Or.inl ⟨by rfl, ?hyb12⟩) hHeld ?restb12
          case hyb12 => (intro w hSw; (try dsimp only at hSw); go_simp; try (with_reducible rfl))
          simp only [Act.put, List.setIfInBounds_toArray, List.set_cons_zero, List.set_cons_succ]
          refine' wpAnyH_take (i := 14) (v := _) (by simp only [List.getElem?_toArray, List.getElem?_cons_succ, List.getElem?_cons_zero]; rfl) (by kernel_rfl) (by kernel_rfl) (by kernel_rfl) (by intro _ _ _ h; exact h) (Or.inl ⟨by rfl, ?hyb14⟩) hHeld ?restb14
          case hyb14 => (intro w hSw; (try dsimp only at hSw); go_simp; try (with_reducible rfl))
          simp only [Act.put, List.setIfInBounds_toArray, List.set_cons_zero, List.set_cons_succ]
          refine' wpAnyH_take (i := 17) (v := _) (by simp only [List.getElem?_toArray, List.getElem?_cons_succ, List.getElem?_cons_zero]; rfl) (by kernel_rfl) (by kernel_rfl) (by kernel_rfl) (by intro _ _ _ h; exact h) (Or.inl ⟨by rfl, ?hyb17⟩) hHeld ?restb17
          case hyb17 => (intro w hSw; (try dsimp only at hSw); go_simp; try (with_reducible rfl))
          simp only [Act.put, List.setIfInBounds_toArray, List.set_cons_zero, List.set_cons_succ]
          refine' wpAnyH_take (i := 18) (v := _) (by simp only [List.getElem?_toArray, List.getElem?_cons_succ, List.getElem?_cons_zero]; rfl) (by kernel_rfl) (by kernel_rfl) (by kernel_rfl) (by intro _ _ _ h; exact h) (Or.inl ⟨by rfl, ?hyb18⟩) hHeld ?restb18
          case hyb18 => (intro w hSw; (try dsimp only at hSw); go_simp; try (with_reducible rfl))
          simp only [Act.put, List.setIfInBounds_toArray, List.set_cons_zero, List.set_cons_succ]
          refine' wpAnyH_take (i := 21) (v := _) (by simp only [List.getElem?_toArray, List.getElem?_cons_succ, List.getElem?_cons_zero]; rfl) (by kernel_rfl) (by kernel_rfl) (by kernel_rfl) (by intro _ _ _ h; exact h) (Or.inl ⟨by rfl, ?hyb21⟩) hHeld ?restb21
          case hyb21 => (intro w hSw; (try dsimp only at hSw); go_simp; try (with_reducible rfl))
          simp only [Act.put, List.setIfInBounds_toArray, List.set_cons_zero, List.set_cons_succ]
          refine' wpAnyH_take (i := 23) (v := _) (by simp only [List.getElem?_toArray, List.getElem?_cons_succ, List.getElem?_cons_zero]; rfl) (by kernel_rfl) (by kernel_rfl) (by kernel_rfl) (by intro _ _ _ h; exact h) (Or.inl ⟨by rfl, ?hyb23⟩) hHeld ?restb23
          case hyb23 => (intro w hSw; (try dsimp only at hSw); go_simp; try (with_reducible rfl))
          simp only [Act.put, List.setIfInBounds_toArray, List.set_cons_zero, List.set_cons_succ]
          refine' wpAnyH_take (i := 26) (v := _) (by simp only [List.getElem?_toArray, List.getElem?_cons_succ, List.getElem?_cons_zero]; rfl) (by kernel_rfl) (by kernel_rfl) (by kernel_rfl) (by intro _ _ _ h; exact h) (Or.inl ⟨by rfl, ?hyb26⟩) hHeld ?restb26
          case hyb26 => (intro w hSw; (try dsimp only at hSw); go_simp; try (with_reducible rfl))
          simp only [Act.put, List.setIfInBounds_toArray, List.set_cons_zero, List.set_cons_succ]
          refine' wpAnyH_take (i := 27) (v := _) (by simp only [List.getElem?_toArray, List.getElem?_cons_succ, List.getElem?_cons_zero]; rfl) (by kernel_rfl) (by kernel_rfl) (by kernel_rfl) (by intro _ _ _ h; exact h) (Or.inl ⟨by rfl, ?hyb27⟩) hHeld ?restb27
          case hyb27 => (intro w hSw; (try dsimp only at hSw); go_simp; try (with_reducible rfl))
          simp only [Act.put, List.setIfInBounds_toArray, List.set_cons_zero, List.set_cons_succ]
          refine wpAnyH_ready (rs := [13]) (by kernel_rfl) (by simp) (AllReadyH.cons (by simp only [List.getElem?_toArray, List.getElem?_cons_succ, List.getElem?_cons_zero]; rfl) (fun K hK => ?_) AllReadyH.nil)
          rw [if_pos (by simp [Region.wanted])]
          go_simp
          refine (turn_T _ _ (by unfold GoodT; decide) W15.out _).mono ?_
          rintro e wN ⟨rfl, m0, rfl⟩
          try go_wp2_with fail
          refine hK.out _ _ ?_ (fun hHeld => ?_)
          · exact ⟨c16, c7⟩
          clear hK K
          try simp only [Act.put, List.setIfInBounds_toArray, List.set_cons_zero, List.set_cons_succ]
          refine wpAnyH_ready (rs := [15]) (by kernel_rfl) (by simp) (AllReadyH.cons (by simp only [List.getElem?_toArray, List.getElem?_cons_succ, List.getElem?_cons_zero]; rfl) (fun K hK => ?_) AllReadyH.nil)
          rw [if_pos (by simp [Region.wanted])]
          go_simp
          refine (turn_T _ _ (by unfold GoodT; decide) W15.out _).mono ?_
          rintro e wN ⟨rfl, m1, rfl⟩
          try go_wp2_with fail
          refine hK.out _ _ ?_ (fun hHeld => ?_)
          · exact ⟨c16, c7⟩
          clear hK K
          try simp only [Act.put, List.setIfInBounds_toArray, List.set_cons_zero, List.set_cons_succ]
          refine' wpAnyH_take (i := 16) (v := _) (by simp only [List.getElem?_toArray, List.getElem?_cons_succ, List.getElem?_cons_zero]; rfl) (by kernel_rfl) (by kernel_rfl) (by kernel_rfl) (by intro _ _ _ h; exact h) (Or.inl ⟨by rfl, ?hyb16⟩) hHeld ?restb16
          case hyb16 => (intro w hSw; (try dsimp only at hSw); go_simp; try (with_reducible rfl))
          simp only [Act.put, List.setIfInBounds_toArray, List.set_cons_zero, List.set_cons_succ]
          refine' wpAnyH_take (i := 19) (v := _) (by simp only [List.getElem?_toArray, List.getElem?_cons_succ, List.getElem?_cons_zero]; rfl) (by kernel_rfl) (by kernel_rfl) (by kernel_rfl) (by intro _ _ _ h; exact h) (Or.inl ⟨by rfl, ?hyb19⟩) hHeld ?restb19
          case hyb19 => (intro w hSw; (try dsimp only at hSw); go_simp; try (with_reducible rfl))
          simp only [Act.put, List.setIfInBounds_toArray, List.set_cons_zero, List.set_cons_succ]
          refine' wpAnyH_take (i := 20) (v := _) (by simp only [List.getElem?_toArray, List.getElem?_cons_succ, List.getElem?_cons_zero]; rfl) (by kernel_rfl) (by kernel_rfl) (by kernel_rfl) (by intro _ _ _ h; exact h) (Or.inl ⟨by rfl, ?hyb20⟩) hHeld ?restb20
          case hyb20 => (intro w hSw; (try dsimp only at hSw); go_simp; try (with_reducible rfl))
          simp only [Act.put, List.setIfInBounds_toArray, List.set_cons_zero, List.set_cons_succ]
          refine wpAnyH_ready (rs := [22]) (by kernel_rfl) (by simp) (AllReadyH.cons (by simp only [List.getElem?_toArray, List.getElem?_cons_succ, List.getElem?_cons_zero]; rfl) (fun K hK => ?_) AllReadyH.nil)
          rw [if_pos (by simp [Region.wanted])]
          go_simp
          refine (turn_T _ _ (by unfold GoodT; decide) W2.out _).mono ?_
          rintro e wN ⟨rfl, m2, rfl⟩
          try go_wp2_with fail
          refine hK.out _ _ ?_ (fun hHeld => ?_)
          · exact ⟨c16, c7⟩
          clear hK K
          try simp only [Act.put, List.setIfInBounds_toArray, List.set_cons_zero, List.set_cons_succ]
          refine wpAnyH_ready (rs := [24]) (by kernel_rfl) (by simp) (AllReadyH.cons (by simp only [List.getElem?_toArray, List.getElem?_cons_succ, List.getElem?_cons_zero]; rfl) (fun K hK => ?_) AllReadyH.nil)
          rw [if_pos (by simp [Region.wanted])]
          go_simp
          refine (turn_T _ _ (by unfold GoodT; decide) W2.out _).mono ?_
          rintro e wN ⟨rfl, m3, rfl⟩
          try go_wp2_with fail
          refine hK.out _ _ ?_ (fun hHeld => ?_)
          · exact ⟨c16, c7⟩
          clear hK K
          try simp only [Act.put, List.setIfInBounds_toArray, List.set_cons_zero, List.set_cons_succ]
          refine' wpAnyH_take (i := 25) (v := _) (by simp only [List.getElem?_toArray, List.getElem?_cons_succ, List.getElem?_cons_zero]; rfl) (by kernel_rfl) (by kernel_rfl) (by kernel_rfl) (by intro _ _ _ h; exact h) (Or.inl ⟨by rfl, ?hyb25⟩) hHeld ?restb25
          case hyb25 => (intro w hSw; (try dsimp only at hSw); go_simp; try (with_reducible rfl))
          simp only [Act.put, List.setIfInBounds_toArray, List.set_cons_zero, List.set_cons_succ]
          refine' wpAnyH_take (i := 28) (v := _) (by simp only [List.getElem?_toArray, List.getElem?_cons_succ, List.getElem?_cons_zero]; rfl) (by kernel_rfl) (by kernel_rfl) (by kernel_rfl) (by intro _ _ _ h; exact h) (Or.inl ⟨by rfl, ?hyb28⟩) hHeld ?restb28
          case hyb28 => (intro w hSw; (try dsimp only at hSw); go_simp; try (with_reducible rfl))
          simp only [Act.put, List.setIfInBounds_toArray, List.set_cons_zero, List.set_cons_succ]
          refine' wpAnyH_take (i := 29) (v := _) (by simp only [List.getElem?_toArray, List.getElem?_cons_succ, List.getElem?_cons_zero]; rfl) (by kernel_rfl) (by kernel_rfl) (by kernel_rfl) (by intro _ _ _ h; exact h) (Or.inl ⟨by rfl, ?hyb29⟩) hHeld ?restb29
          case hyb29 => (intro w hSw; (try dsimp only at hSw); go_simp; try (with_reducible rfl))
          simp only [Act.put, List.setIfInBounds_toArray, List.set_cons_zero, List.set_cons_succ]
          refine wpAnyH_ready (rs := [30]) (by kernel_rfl) (by simp) (AllReadyH.cons (by simp only [List.getElem?_toArray, List.getElem?_cons_succ, List.getElem?_cons_zero]; rfl) (fun K hK => ?_) AllReadyH.nil)
          go_simp
          refine hK.out _ _ ?_ (fun hHeld => ?_)
          · go_keep
          clear hK K
          try simp only [Act.put, List.setIfInBounds_toArray, List.set_cons_zero, List.set_cons_succ]
          refine wpAnyH_ready (rs := [31]) (by kernel_rfl) (by simp) (AllReadyH.cons (by simp only [List.getElem?_toArray, List.getElem?_cons_succ, List.getElem?_cons_zero]; rfl) (fun K hK => ?_) AllReadyH.nil)
          refine step_append_keep rfl (.tmp 59) (.tmp 89) 40 rfl w.heap.size 39 i39 _ 1 4 Try.underlying40 I39.out.1 I39.out.2.1 I39.out.2.2.1 I39.out.2.2.2 rfl (by omega) g p cap (u32s l) rfl (own_nope hR.out.1 (((Turn.refl _ _).drewN _).alloc _)) ⟨wr.heap.size, 0, none⟩ 1 1 [.int .u32 _] rfl rfl (news_new (wr.drewN _) _ 39) (by intro u hu; simp at hu; subst hu; rfl) (by omega) (by have := HN.out; show p + 1 ≤ 9223372036854775807; omega) (by have := HN.out; omega) (Nat.le_trans hR.out.2.size (by simp)) (wr.heap.size + 1) (by simp) ?_
          intro g1 cap1 w6 hown hgr hat hlt2 hkc
          have HO6 : Hid (∃ E : Int, E = nextW l ∧ w6.ownsRow w.heap.size 39 1 (.slice (some ⟨g1, 0, none⟩) (p + 1) cap1) (p + 1) (u32s l ++ [.int .u32 E])) := ⟨_, nextE HN.out.2.2 HE.out.2.2.1 HE.out.1 HE.out.2.2.2 HE.out.2.1 HEX.out.2.2.1 HEX.out.1 HEX.out.2.2.2 HEX.out.2.1 W15.out W2.out, hown⟩
          have HG6 : Hid (Turn Nope w w6) := ((hR.out.2.drewN _).alloc _).growR hgr (own_nope hR.out.1 (((Turn.refl _ _).drewN _).alloc _)) (Nat.le_refl _)
          have HC6 : Hid (w6.cell? ⟨g, q16, none⟩ = some (.int .u32 x16) ∧ w6.cell? ⟨g, q7, none⟩ = some (.int .u32 x7)) := ⟨by rw [hkc q16 (by have := HE.out; omega)]; exact (World.cell?_alloc_some _ _ _ (by show (wr.cell? _).isSome = true; rw [c16]; rfl)).trans c16, by rw [hkc q7 (by have := HE.out; omega)]; exact (World.cell?_alloc_some _ _ _ (by show (wr.cell? _).isSome = true; rw [c7]; rfl)).trans c7⟩
          clear hown hgr hat hlt2 hkc
          refine hK.out _ _ ?_ (fun hHeld => ?_)
          · exact ⟨HC6.out.1, HC6.out.2⟩
          clear hK K
          try simp only [Act.put, List.setIfInBounds_toArray, List.set_cons_zero, List.set_cons_succ]
          refine' wpAnyH_take (i := 32) (v := _) (by simp only [List.getElem?_toArray, List.getElem?_cons_succ, List.getElem?_cons_zero]; rfl) (by kernel_rfl) (by kernel_rfl) (by kernel_rfl) (by intro _ _ _ h; exact h) (Or.inl ⟨by rfl, ?hyb32⟩) hHeld ?restb32
          case hyb32 => (intro w hSw; (try dsimp only at hSw); go_simp; try (with_reducible rfl))
          simp only [Act.put, List.setIfInBounds_toArray, List.set_cons_zero, List.set_cons_succ]
          refine wpAnyH_done (by kernel_rfl) ?_ _
          go_wp2_with fail
          go_roundg (64 - (p + 1))
          case measure => have := HN.out; omega
          case rel =>
            obtain ⟨n1, n2, n3⟩ := HN.out
            obtain ⟨E, hE, h1⟩ := HO6.out
            rw [hE] at h1
            refine ⟨p + 1, l ++ [nextW l], by go_num, ⟨by omega, by omega, by simp [n3], ?_⟩, ?_, HG6.out⟩
            · rw [show p + 1 - 16 = (p - 16) + 1 by omega, growW_add, ← HLG.out]
            · unfold u32s at *
              rw [List.map_append]
              exact h1
        · have hp : p = 64 := by omega
          clear hlt
          subst hp
          have b1 : decide (((64 : Nat) : Int) < 64) = false := by decide
          obtain ⟨A, c, rfl, hc⟩ := own_slice hR.out.1
          go_wp2_with fail
          go_ret
          refine ⟨_, rfl, ?_, hR.out.2⟩
          have := hR.out.1
          rw [HLG.out] at this
          exact this
end Go.Proofs.Ytojfknogdknhkaa
