/- Words of 32 bits: a turn to the right, in the program's way and in the document's. -/
import Derived.Test.YtojfknogdknhkaaLib
import Derived.Laws.BitsAllLaws
set_option maxRecDepth 16000
set_option linter.unusedVariables false
namespace Go.Proofs.Ytojfknogdknhkaa
open Go.RowKit
/-- A word turned to the right: A and B are the powers of two. -/
def rt (A B x : Int) : Int := x / A + x * B % 4294967296
/-- A word. -/
def W32 (x : Int) : Prop := 0 ≤ x ∧ x < 4294967296
theorem rt_w2 {x : Int} (hx : W32 x) : W32 (rt 4 1073741824 x) := by
  obtain ⟨h0, h1⟩ := hx
  unfold W32 rt; omega
theorem or_30 (x : Int) (hx : W32 x) : bits .or .u32 (x * 1073741824 % 4294967296) (x / 4) = rt 4 1073741824 x := by
  obtain ⟨h0, h1⟩ := hx
  rw [u32_or _ _ (by omega) (by omega) (by omega) (by omega), nat_join 30 _ _ (by show _ % 1073741824 = 0; omega) (by show _ < 1073741824; omega)]
  unfold rt; omega
theorem rot_30 (x : Int) (hx : W32 x) (w : World) : Calls Try.prog 29 #[.int .u32 x, .int .i64 30] w fun e w' => e = .returned (.int .u32 (rt 4 1073741824 x)) ∧ w' = w := by
  have e : bits .and .u64 30 31 = 30 := by decide
  have h0 := hx.1
  have h1 := hx.2
  have HO := Lib.hid (or_30 x hx)
  clear hx
  go_enter Try.func29, Try.ntmps29
  go_wp2_with fail
  go_ret
  exact ⟨by rw [← HO.out]; rfl, rfl⟩
theorem turn_2 (x : Int) (hx : W32 x) (w : World) : Calls Try.prog 25 #[.int .u32 x, .int .i64 2] w fun e w' => e = .returned (.int .u32 (rt 4 1073741824 x)) ∧ ∃ k, w' = w.drewN k := by
  have h0 := hx.1
  have h1 := hx.2
  clear hx
  go_enter Try.func25, Try.ntmps25
  go_wp2_with (go_quiet (fail))
  go_ret
  exact ⟨rfl, _, rfl⟩
theorem rt_w6 {x : Int} (hx : W32 x) : W32 (rt 64 67108864 x) := by
  obtain ⟨h0, h1⟩ := hx
  unfold W32 rt; omega
theorem or_26 (x : Int) (hx : W32 x) : bits .or .u32 (x * 67108864 % 4294967296) (x / 64) = rt 64 67108864 x := by
  obtain ⟨h0, h1⟩ := hx
  rw [u32_or _ _ (by omega) (by omega) (by omega) (by omega), nat_join 26 _ _ (by show _ % 67108864 = 0; omega) (by show _ < 67108864; omega)]
  unfold rt; omega
theorem rot_26 (x : Int) (hx : W32 x) (w : World) : Calls Try.prog 29 #[.int .u32 x, .int .i64 26] w fun e w' => e = .returned (.int .u32 (rt 64 67108864 x)) ∧ w' = w := by
  have e : bits .and .u64 26 31 = 26 := by decide
  have h0 := hx.1
  have h1 := hx.2
  have HO := Lib.hid (or_26 x hx)
  clear hx
  go_enter Try.func29, Try.ntmps29
  go_wp2_with fail
  go_ret
  exact ⟨by rw [← HO.out]; rfl, rfl⟩
theorem turn_6 (x : Int) (hx : W32 x) (w : World) : Calls Try.prog 25 #[.int .u32 x, .int .i64 6] w fun e w' => e = .returned (.int .u32 (rt 64 67108864 x)) ∧ ∃ k, w' = w.drewN k := by
  have h0 := hx.1
  have h1 := hx.2
  clear hx
  go_enter Try.func25, Try.ntmps25
  go_wp2_with (go_quiet (fail))
  go_ret
  exact ⟨rfl, _, rfl⟩
theorem rt_w7 {x : Int} (hx : W32 x) : W32 (rt 128 33554432 x) := by
  obtain ⟨h0, h1⟩ := hx
  unfold W32 rt; omega
theorem or_25 (x : Int) (hx : W32 x) : bits .or .u32 (x * 33554432 % 4294967296) (x / 128) = rt 128 33554432 x := by
  obtain ⟨h0, h1⟩ := hx
  rw [u32_or _ _ (by omega) (by omega) (by omega) (by omega), nat_join 25 _ _ (by show _ % 33554432 = 0; omega) (by show _ < 33554432; omega)]
  unfold rt; omega
theorem rot_25 (x : Int) (hx : W32 x) (w : World) : Calls Try.prog 29 #[.int .u32 x, .int .i64 25] w fun e w' => e = .returned (.int .u32 (rt 128 33554432 x)) ∧ w' = w := by
  have e : bits .and .u64 25 31 = 25 := by decide
  have h0 := hx.1
  have h1 := hx.2
  have HO := Lib.hid (or_25 x hx)
  clear hx
  go_enter Try.func29, Try.ntmps29
  go_wp2_with fail
  go_ret
  exact ⟨by rw [← HO.out]; rfl, rfl⟩
theorem turn_7 (x : Int) (hx : W32 x) (w : World) : Calls Try.prog 25 #[.int .u32 x, .int .i64 7] w fun e w' => e = .returned (.int .u32 (rt 128 33554432 x)) ∧ ∃ k, w' = w.drewN k := by
  have h0 := hx.1
  have h1 := hx.2
  clear hx
  go_enter Try.func25, Try.ntmps25
  go_wp2_with (go_quiet (fail))
  go_ret
  exact ⟨rfl, _, rfl⟩
theorem rt_w11 {x : Int} (hx : W32 x) : W32 (rt 2048 2097152 x) := by
  obtain ⟨h0, h1⟩ := hx
  unfold W32 rt; omega
theorem or_21 (x : Int) (hx : W32 x) : bits .or .u32 (x * 2097152 % 4294967296) (x / 2048) = rt 2048 2097152 x := by
  obtain ⟨h0, h1⟩ := hx
  rw [u32_or _ _ (by omega) (by omega) (by omega) (by omega), nat_join 21 _ _ (by show _ % 2097152 = 0; omega) (by show _ < 2097152; omega)]
  unfold rt; omega
theorem rot_21 (x : Int) (hx : W32 x) (w : World) : Calls Try.prog 29 #[.int .u32 x, .int .i64 21] w fun e w' => e = .returned (.int .u32 (rt 2048 2097152 x)) ∧ w' = w := by
  have e : bits .and .u64 21 31 = 21 := by decide
  have h0 := hx.1
  have h1 := hx.2
  have HO := Lib.hid (or_21 x hx)
  clear hx
  go_enter Try.func29, Try.ntmps29
  go_wp2_with fail
  go_ret
  exact ⟨by rw [← HO.out]; rfl, rfl⟩
theorem turn_11 (x : Int) (hx : W32 x) (w : World) : Calls Try.prog 25 #[.int .u32 x, .int .i64 11] w fun e w' => e = .returned (.int .u32 (rt 2048 2097152 x)) ∧ ∃ k, w' = w.drewN k := by
  have h0 := hx.1
  have h1 := hx.2
  clear hx
  go_enter Try.func25, Try.ntmps25
  go_wp2_with (go_quiet (fail))
  go_ret
  exact ⟨rfl, _, rfl⟩
theorem rt_w13 {x : Int} (hx : W32 x) : W32 (rt 8192 524288 x) := by
  obtain ⟨h0, h1⟩ := hx
  unfold W32 rt; omega
theorem or_19 (x : Int) (hx : W32 x) : bits .or .u32 (x * 524288 % 4294967296) (x / 8192) = rt 8192 524288 x := by
  obtain ⟨h0, h1⟩ := hx
  rw [u32_or _ _ (by omega) (by omega) (by omega) (by omega), nat_join 19 _ _ (by show _ % 524288 = 0; omega) (by show _ < 524288; omega)]
  unfold rt; omega
theorem rot_19 (x : Int) (hx : W32 x) (w : World) : Calls Try.prog 29 #[.int .u32 x, .int .i64 19] w fun e w' => e = .returned (.int .u32 (rt 8192 524288 x)) ∧ w' = w := by
  have e : bits .and .u64 19 31 = 19 := by decide
  have h0 := hx.1
  have h1 := hx.2
  have HO := Lib.hid (or_19 x hx)
  clear hx
  go_enter Try.func29, Try.ntmps29
  go_wp2_with fail
  go_ret
  exact ⟨by rw [← HO.out]; rfl, rfl⟩
theorem turn_13 (x : Int) (hx : W32 x) (w : World) : Calls Try.prog 25 #[.int .u32 x, .int .i64 13] w fun e w' => e = .returned (.int .u32 (rt 8192 524288 x)) ∧ ∃ k, w' = w.drewN k := by
  have h0 := hx.1
  have h1 := hx.2
  clear hx
  go_enter Try.func25, Try.ntmps25
  go_wp2_with (go_quiet (fail))
  go_ret
  exact ⟨rfl, _, rfl⟩
theorem rt_w17 {x : Int} (hx : W32 x) : W32 (rt 131072 32768 x) := by
  obtain ⟨h0, h1⟩ := hx
  unfold W32 rt; omega
theorem or_15 (x : Int) (hx : W32 x) : bits .or .u32 (x * 32768 % 4294967296) (x / 131072) = rt 131072 32768 x := by
  obtain ⟨h0, h1⟩ := hx
  rw [u32_or _ _ (by omega) (by omega) (by omega) (by omega), nat_join 15 _ _ (by show _ % 32768 = 0; omega) (by show _ < 32768; omega)]
  unfold rt; omega
theorem rot_15 (x : Int) (hx : W32 x) (w : World) : Calls Try.prog 29 #[.int .u32 x, .int .i64 15] w fun e w' => e = .returned (.int .u32 (rt 131072 32768 x)) ∧ w' = w := by
  have e : bits .and .u64 15 31 = 15 := by decide
  have h0 := hx.1
  have h1 := hx.2
  have HO := Lib.hid (or_15 x hx)
  clear hx
  go_enter Try.func29, Try.ntmps29
  go_wp2_with fail
  go_ret
  exact ⟨by rw [← HO.out]; rfl, rfl⟩
theorem turn_17 (x : Int) (hx : W32 x) (w : World) : Calls Try.prog 25 #[.int .u32 x, .int .i64 17] w fun e w' => e = .returned (.int .u32 (rt 131072 32768 x)) ∧ ∃ k, w' = w.drewN k := by
  have h0 := hx.1
  have h1 := hx.2
  clear hx
  go_enter Try.func25, Try.ntmps25
  go_wp2_with (go_quiet (fail))
  go_ret
  exact ⟨rfl, _, rfl⟩
theorem rt_w18 {x : Int} (hx : W32 x) : W32 (rt 262144 16384 x) := by
  obtain ⟨h0, h1⟩ := hx
  unfold W32 rt; omega
theorem or_14 (x : Int) (hx : W32 x) : bits .or .u32 (x * 16384 % 4294967296) (x / 262144) = rt 262144 16384 x := by
  obtain ⟨h0, h1⟩ := hx
  rw [u32_or _ _ (by omega) (by omega) (by omega) (by omega), nat_join 14 _ _ (by show _ % 16384 = 0; omega) (by show _ < 16384; omega)]
  unfold rt; omega
theorem rot_14 (x : Int) (hx : W32 x) (w : World) : Calls Try.prog 29 #[.int .u32 x, .int .i64 14] w fun e w' => e = .returned (.int .u32 (rt 262144 16384 x)) ∧ w' = w := by
  have e : bits .and .u64 14 31 = 14 := by decide
  have h0 := hx.1
  have h1 := hx.2
  have HO := Lib.hid (or_14 x hx)
  clear hx
  go_enter Try.func29, Try.ntmps29
  go_wp2_with fail
  go_ret
  exact ⟨by rw [← HO.out]; rfl, rfl⟩
theorem turn_18 (x : Int) (hx : W32 x) (w : World) : Calls Try.prog 25 #[.int .u32 x, .int .i64 18] w fun e w' => e = .returned (.int .u32 (rt 262144 16384 x)) ∧ ∃ k, w' = w.drewN k := by
  have h0 := hx.1
  have h1 := hx.2
  clear hx
  go_enter Try.func25, Try.ntmps25
  go_wp2_with (go_quiet (fail))
  go_ret
  exact ⟨rfl, _, rfl⟩
theorem rt_w19 {x : Int} (hx : W32 x) : W32 (rt 524288 8192 x) := by
  obtain ⟨h0, h1⟩ := hx
  unfold W32 rt; omega
theorem or_13 (x : Int) (hx : W32 x) : bits .or .u32 (x * 8192 % 4294967296) (x / 524288) = rt 524288 8192 x := by
  obtain ⟨h0, h1⟩ := hx
  rw [u32_or _ _ (by omega) (by omega) (by omega) (by omega), nat_join 13 _ _ (by show _ % 8192 = 0; omega) (by show _ < 8192; omega)]
  unfold rt; omega
theorem rot_13 (x : Int) (hx : W32 x) (w : World) : Calls Try.prog 29 #[.int .u32 x, .int .i64 13] w fun e w' => e = .returned (.int .u32 (rt 524288 8192 x)) ∧ w' = w := by
  have e : bits .and .u64 13 31 = 13 := by decide
  have h0 := hx.1
  have h1 := hx.2
  have HO := Lib.hid (or_13 x hx)
  clear hx
  go_enter Try.func29, Try.ntmps29
  go_wp2_with fail
  go_ret
  exact ⟨by rw [← HO.out]; rfl, rfl⟩
theorem turn_19 (x : Int) (hx : W32 x) (w : World) : Calls Try.prog 25 #[.int .u32 x, .int .i64 19] w fun e w' => e = .returned (.int .u32 (rt 524288 8192 x)) ∧ ∃ k, w' = w.drewN k := by
  have h0 := hx.1
  have h1 := hx.2
  clear hx
  go_enter Try.func25, Try.ntmps25
  go_wp2_with (go_quiet (fail))
  go_ret
  exact ⟨rfl, _, rfl⟩
theorem rt_w22 {x : Int} (hx : W32 x) : W32 (rt 4194304 1024 x) := by
  obtain ⟨h0, h1⟩ := hx
  unfold W32 rt; omega
theorem or_10 (x : Int) (hx : W32 x) : bits .or .u32 (x * 1024 % 4294967296) (x / 4194304) = rt 4194304 1024 x := by
  obtain ⟨h0, h1⟩ := hx
  rw [u32_or _ _ (by omega) (by omega) (by omega) (by omega), nat_join 10 _ _ (by show _ % 1024 = 0; omega) (by show _ < 1024; omega)]
  unfold rt; omega
theorem rot_10 (x : Int) (hx : W32 x) (w : World) : Calls Try.prog 29 #[.int .u32 x, .int .i64 10] w fun e w' => e = .returned (.int .u32 (rt 4194304 1024 x)) ∧ w' = w := by
  have e : bits .and .u64 10 31 = 10 := by decide
  have h0 := hx.1
  have h1 := hx.2
  have HO := Lib.hid (or_10 x hx)
  clear hx
  go_enter Try.func29, Try.ntmps29
  go_wp2_with fail
  go_ret
  exact ⟨by rw [← HO.out]; rfl, rfl⟩
theorem turn_22 (x : Int) (hx : W32 x) (w : World) : Calls Try.prog 25 #[.int .u32 x, .int .i64 22] w fun e w' => e = .returned (.int .u32 (rt 4194304 1024 x)) ∧ ∃ k, w' = w.drewN k := by
  have h0 := hx.1
  have h1 := hx.2
  clear hx
  go_enter Try.func25, Try.ntmps25
  go_wp2_with (go_quiet (fail))
  go_ret
  exact ⟨rfl, _, rfl⟩
theorem rt_w25 {x : Int} (hx : W32 x) : W32 (rt 33554432 128 x) := by
  obtain ⟨h0, h1⟩ := hx
  unfold W32 rt; omega
theorem or_7 (x : Int) (hx : W32 x) : bits .or .u32 (x * 128 % 4294967296) (x / 33554432) = rt 33554432 128 x := by
  obtain ⟨h0, h1⟩ := hx
  rw [u32_or _ _ (by omega) (by omega) (by omega) (by omega), nat_join 7 _ _ (by show _ % 128 = 0; omega) (by show _ < 128; omega)]
  unfold rt; omega
theorem rot_7 (x : Int) (hx : W32 x) (w : World) : Calls Try.prog 29 #[.int .u32 x, .int .i64 7] w fun e w' => e = .returned (.int .u32 (rt 33554432 128 x)) ∧ w' = w := by
  have e : bits .and .u64 7 31 = 7 := by decide
  have h0 := hx.1
  have h1 := hx.2
  have HO := Lib.hid (or_7 x hx)
  clear hx
  go_enter Try.func29, Try.ntmps29
  go_wp2_with fail
  go_ret
  exact ⟨by rw [← HO.out]; rfl, rfl⟩
theorem turn_25 (x : Int) (hx : W32 x) (w : World) : Calls Try.prog 25 #[.int .u32 x, .int .i64 25] w fun e w' => e = .returned (.int .u32 (rt 33554432 128 x)) ∧ ∃ k, w' = w.drewN k := by
  have h0 := hx.1
  have h1 := hx.2
  clear hx
  go_enter Try.func25, Try.ntmps25
  go_wp2_with (go_quiet (fail))
  go_ret
  exact ⟨rfl, _, rfl⟩
end Go.Proofs.Ytojfknogdknhkaa
