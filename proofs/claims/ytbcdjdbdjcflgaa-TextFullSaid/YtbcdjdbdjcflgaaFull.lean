/- TextFull: what finds no room changes nothing: the walk of the law, over a document's Do. -/
import Derived.Test.YtbcdjdbdjcflgaaAwake
import Derived.Deep.OwnRows
namespace Go.Proofs.Ytbcdjdbdjcflgaa
open Go.RowKit
attribute [local go_sem] lib_max2 lib_min2 lib_max_two lib_min_two

/-- k bytes 0. -/
def zs (k : Nat) : ByteArray := strOfNums (List.replicate k 0)
theorem zs_size (k : Nat) : (zs k).size = k := by unfold zs; rw [strOfNums_size]; simp
theorem and255 (m : Int) : 0 ≤ bits .and .i64 m 255 ∧ bits .and .i64 m 255 ≤ 255 := by
  have h : (BitVec.ofInt 64 m &&& BitVec.ofInt 64 255).toNat ≤ 255 := by
    rw [BitVec.toNat_and]
    exact Nat.le_trans Nat.and_le_right (by decide)
  show 0 ≤ IntKind.i64.wrap ((BitVec.ofInt 64 m &&& BitVec.ofInt 64 255).toNat : Int) ∧ IntKind.i64.wrap ((BitVec.ofInt 64 m &&& BitVec.ofInt 64 255).toNat : Int) ≤ 255
  rw [IntKind.wrap_i64]
  omega
theorem part_m (m : Int) : ∃ M : Nat, wrap64 (1 + (bits .and .i64 m 255).tmod 40) = (M : Int) ∧ 1 ≤ M ∧ M ≤ 40 := by
  obtain ⟨h0, h1⟩ := and255 m
  generalize bits .and .i64 m 255 = b at *
  refine ⟨(1 + b % 40).toNat, ?_, by omega, by omega⟩
  rw [Int.tmod_eq_emod_of_nonneg h0]
  unfold wrap64
  omega
theorem part_n (n : Int) : ∃ (x : Int) (N : Nat), (if n < 0 then (0 : Int) else n) = x ∧ (if (200 : Int) < x then (200 : Int) else x) = (N : Int) ∧ N ≤ 200 := by
  refine ⟨_, (if (200 : Int) < (if n < 0 then (0 : Int) else n) then (200 : Int) else (if n < 0 then (0 : Int) else n)).toNat, rfl, ?_, ?_⟩ <;> (repeat' split) <;> omega
theorem part_k (N z : Nat) (h : z < N) : ∃ k : Nat, (if (N : Int) - (z : Int) < 40 then (N : Int) - (z : Int) else 40) = (k : Int) ∧ 1 ≤ k ∧ k ≤ 40 ∧ z + k ≤ N := by
  refine ⟨(if (N : Int) - (z : Int) < 40 then (N : Int) - (z : Int) else 40).toNat, ?_, ?_, ?_, ?_⟩ <;> split <;> omega

theorem Try.info5 : (Try.prog.info? 5).map (fun i => (i.zero, i.size, i.bytes)) = some (some (.int .u8 0), 1, 1) := by kernel_rfl
theorem make_zs (k : Nat) (hk : k ≤ 200) : ∀ W : World, (Instr.makeSlice 29 (.int .i64 (k : Int)) (.int .i64 (k : Int))).run Try.prog W = .ok (.slice (some ⟨W.heap.size, 0, none⟩) k k) (W.alloc (.cells (madeCells #[.int .u8 0] k) 5)) := fun W =>
  run_make_row' 29 5 (.int .u8 0) 1 Try.underlying29 Try.info5 rfl .i64 .i64 k (by omega) (by omega) W
theorem text_zs (k : Nat) : ∀ W : World, (convert 29 9 (.slice (some ⟨W.heap.size, 0, none⟩) k k)).run Try.prog (W.alloc (.cells (madeCells #[.int .u8 0] k) 5)) = .ok (.string (zs k)) (W.alloc (.cells (madeCells #[.int .u8 0] k) 5)) := fun W => by
  refine run_convert_bytes_arg _ 29 5 Try.underlying29 Try.underlying5 W.heap.size 0 k k (List.replicate k 0) (by simp) (fun i hi => ?_) 9 Try.underlying9
  rw [blk_cell (blk_new W _)]
  simp [madeCells, hi, Nat.mod_one]
theorem dDo_full (s : ByteArray) (N M : Nat) (hs : s.size = N) (h1 : 1 ≤ M) (h2 : M ≤ 40) (hN : N ≤ 200) (h : 200 < N + M) : dDo s 1 (N : Int) (zs M) 0 = (s, ⟨#[]⟩, 7) := by
  unfold dDo chk
  have hz := zs_size M
  simp only [hz, hs]
  rw [if_neg (by simp; omega), if_pos trivial, if_neg (by omega), if_pos (by omega)]
theorem dDo_room (s : ByteArray) (a M : Nat) (h1 : 1 ≤ M) (h2 : M ≤ 40) (ha : a ≤ s.size) (h : s.size + M ≤ 200) : dDo s 1 (a : Int) (zs M) 0 = (s.extract 0 a ++ zs M ++ s.extract a s.size, ⟨#[]⟩, 0) ∧ (s.extract 0 a ++ zs M ++ s.extract a s.size).size = s.size + M := by
  constructor
  · unfold dDo chk
    have hz := zs_size M
    simp only [hz]
    rw [if_neg (by simp; omega), if_pos trivial, if_neg (by omega), if_neg (by omega)]
    simp
  · simp [zs_size]; omega

set_option maxHeartbeats 4000000 in
theorem full_walk (n m : Int) (w : World) :
    Calls Try.prog 3 #[.int .i64 n, .int .i64 m] w fun e w' => e = .returned (.bool true) ∧ Below w.heap.size w w' := by
  obtain ⟨M, hM, hM1, hM2⟩ := part_m m
  obtain ⟨x, N, hx, hN, hN2⟩ := part_n n
  have hmk := make_zs M (by omega)
  have hcv := text_zs M
  go_enter Try.func3, Try.ntmps3
  go_wp2_with fail
  refine (awake_any _).mono ?_
  rintro e w1 ⟨rfl, ht⟩
  have HT1 := Lib.hid ht
  clear ht
  go_wp2_with fail
  simp only [hM]
  refine (new_any _).mono ?_
  rintro e w2 ⟨g, rfl, hd, hg, ht⟩
  have HT2 := Lib.hid (HT1.out.then ht (fun _ h => h.elim))
  have HG : Hid (w.heap.size ≤ g) := Nat.le_trans HT1.out.size hg
  have HD2 := Lib.hid hd
  have HM := Lib.hid hM
  clear ht hd hg HT1 hM hx hN
  go_wp2_with fail
  go_loopg [6] N (fun k v6 wr => ∃ s : ByteArray, Hid (k + s.size = N) ∧ IsDoc wr g s ∧ Turn Nope w wr)
  case atStart => exact ⟨⟨#[]⟩, by show _ = _; rfl, HD2.out, HT2.out⟩
  case round =>
    obtain ⟨s, hk, hd, ht⟩ := hrel
    have HD := Lib.hid hd
    have HT := Lib.hid ht
    clear hd ht
    have hkk := hk.out
    by_cases hlt : s.size < N
    · obtain ⟨q, hq, hq1, hq2, hq3⟩ := part_k N s.size hlt
      obtain ⟨hr, hz⟩ := dDo_room s 0 q hq1 hq2 (by omega) (by omega)
      have HR : Hid (dDo s 1 0 (zs q) 0 = (s.extract 0 0 ++ zs q ++ s.extract 0 s.size, ⟨#[]⟩, 0)) := hr
      have HZ := Lib.hid hz
      have hb : decide ((s.size : Int) < (N : Int)) = true := by simp; omega
      have hmq := make_zs q (by omega)
      have hcq := text_zs q
      clear hr hz hkk hmk hcv
      go_wp2_with (first | (go_at_call 9; refine (text_any g s _ HD.out).mono ?_; rintro e w' ⟨rfl, rfl⟩))
      refine (do_any g s 1 0 (zs q) 0 _ (blk_alloc HD.out _) (by omega)).mono ?_
      rintro e w3 ⟨rfl, hd, ht⟩
      rw [HR.out] at hd
      rw [HR.out]
      have HD3 := Lib.hid hd
      have HT3 := Lib.hid ht
      clear hd ht
      dsimp only
      go_wp2
      go_roundg (N - (s.size + q))
      case measure => have := hk.out; omega
      case rel =>
        refine ⟨_, ?_, HD3.out, ?_⟩
        · show _ = _
          have := HZ.out
          omega
        · exact (HT.out.alloc _).then HT3.out (fun i hi => .inr (by rw [show i = g from hi]; exact HG.out))
    · have hz : s.size = N := by omega
      have HZ := Lib.hid hz
      have hb : decide ((s.size : Int) < (N : Int)) = false := by simp; omega
      clear hkk
      by_cases hroom : 200 < N + M
      · have HR := Lib.hid (dDo_full s N M hz hM1 hM2 hN2 hroom)
        have hb2 : decide ((200 : Int) < (N : Int) + (M : Int)) = true := by simp; omega
        clear hz
        go_wp2_with (first | (go_at_call 9; refine (text_any g s _ HD.out).mono ?_; rintro e w' ⟨rfl, rfl⟩))
        refine (do_any g s 1 N (zs M) 0 _ (blk_alloc HD.out _) (by have := HZ.out; omega)).mono ?_
        rintro e w3 ⟨rfl, hd, ht⟩
        rw [HR.out] at hd
        rw [HR.out]
        have HD3 := Lib.hid hd
        have HT3 := Lib.hid ht
        have hq : ((s.size : Int) == (N : Int)) = true := by rw [HZ.out]; simp
        clear hd ht
        dsimp only
        go_wp2_with (first | (go_at_call 9; refine (text_any g s _ HD3.out).mono ?_; rintro e w' ⟨rfl, rfl⟩))
        go_ret
        refine ⟨rfl, ?_⟩
        exact ((HT.out.alloc _).then HT3.out (fun i hi => .inr (by rw [show i = g from hi]; exact HG.out))).nopeBelow
      · obtain ⟨hr, hz2⟩ := dDo_room s N M hM1 hM2 (by omega) (by omega)
        have HR := Lib.hid hr
        have HZ2 := Lib.hid hz2
        have hb2 : decide ((200 : Int) < (N : Int) + (M : Int)) = false := by simp; omega
        clear hz hr hz2
        go_wp2_with (first | (go_at_call 9; refine (text_any g s _ HD.out).mono ?_; rintro e w' ⟨rfl, rfl⟩))
        refine (do_any g s 1 N (zs M) 0 _ (blk_alloc HD.out _) (by have := HZ.out; omega)).mono ?_
        rintro e w3 ⟨rfl, hd, ht⟩
        rw [HR.out] at hd
        rw [HR.out]
        have HD3 := Lib.hid hd
        have HT3 := Lib.hid ht
        have hq : (((s.extract 0 N ++ zs M ++ s.extract N s.size).size : Int) == (N : Int) + (M : Int)) = true := by rw [HZ2.out, HZ.out]; simp
        generalize s.extract 0 N ++ zs M ++ s.extract N s.size = s2 at HD3 hq
        clear hd ht
        dsimp only
        go_wp2_with (first | (go_at_call 9; refine (text_any g s2 _ HD3.out).mono ?_; rintro e w' ⟨rfl, rfl⟩))
        go_ret
        refine ⟨rfl, ?_⟩
        exact ((HT.out.alloc _).then HT3.out (fun i hi => .inr (by rw [show i = g from hi]; exact HG.out))).nopeBelow
end Go.Proofs.Ytbcdjdbdjcflgaa
