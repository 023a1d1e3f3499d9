/- The document's long: what is behind bytes. -/
import Derived.Test.YtojfknogdknhkaaRefb
set_option maxRecDepth 16000
set_option linter.unusedVariables false
set_option linter.unusedSimpArgs false
namespace Go.Proofs.Ytojfknogdknhkaa
open Go.RowKit
variable {w w' : World}
def padR (n : Nat) : Nat := (119 - n % 64) % 64
def longL (l : List UInt8) : List UInt8 := l ++ [128] ++ List.replicate (padR l.length) 0 ++ be8 (l.length * 8)
theorem be8_len (n : Nat) : (be8 n).length = 8 := rfl
theorem be8_drop (n k : Nat) (hk : k < 8) : (be8 n).drop (8 - (k + 1)) = UInt8.ofNat (n / 2 ^ (8 * k) % 256) :: (be8 n).drop (8 - k) := by
  match k, hk with
  | 0, _ => rfl
  | 1, _ => rfl
  | 2, _ => rfl
  | 3, _ => rfl
  | 4, _ => rfl
  | 5, _ => rfl
  | 6, _ => rfl
  | 7, _ => rfl
attribute [local go_sem] conv1
set_option maxHeartbeats 8000000 in
theorem long_any (s : ByteArray) (hs : s.size ≤ 1048576) (w : World) :
    Calls Try.prog 15 #[.string s] w fun e w' => ∃ c : ByteArray, e = .returned (.string c) ∧ c.data.toList = longL s.data.toList ∧ c.size = s.size + 1 + padR s.size + 8 ∧ Turn Nope w w' := by
  obtain ⟨n, hn⟩ : ∃ n, s.size = n := ⟨_, rfl⟩
  obtain ⟨r, hr⟩ : ∃ r, padR n = r := ⟨_, rfl⟩
  have HN := Lib.hid hn
  have HR := Lib.hid hr
  have HS := Lib.hid hs
  have HR64 : Hid (r < 64) := by show r < 64; rw [← hr]; unfold padR; omega
  clear hs hr
  have hs1 : ¬ 9223372036854775807 < s.size + 1 := by have := HS.out; omega
  rw [hn]
  go_enter Try.func15, Try.ntmps15
  go_wp2_with fail
  go_loopg [0, 4] r (fun k v0 v4 wr => ∃ (c : ByteArray) (i : Nat), v0 = .string c ∧ v4 = .int .i64 (i : Int) ∧ Hid (k + i = r ∧ c.size = n + 1 + i ∧ c.data.toList = s.data.toList ++ [128] ++ List.replicate i 0) ∧ Turn Nope w wr)
  case atStart => exact ⟨_, 0, rfl, rfl, ⟨by omega, by rw [ByteArray.size_append, hn]; rfl, by simp⟩, Turn.refl _ _⟩
  case round =>
    obtain ⟨c, i, rfl, rfl, hk, ht⟩ := hrel
    have HT := Lib.hid ht
    clear ht hs1
    have hi64 : i < 64 := by have := hk.out.1; have := HR64.out; omega
    have b1 : decide ((i : Int) < 64) = true := by simp; omega
    have b1n : decide (i < 64) = true := by simp; omega
    have HW : Hid (wrap64 ((i : Int) + 1) = (i : Int) + 1) := IntWalk.wrap64_in _ ⟨by omega, by omega⟩
    have hcz : ¬ 9223372036854775807 < c.size + 1 := by have := hk.out.2.1; have := HS.out; have := HN.out; omega
    by_cases hlt : i < r
    · have hne : c.size % 64 ≠ 56 := by
        have h1 := hk.out.2.1
        have h2 := HR.out
        unfold padR at h2
        omega
      have hm : (c.size : Int).tmod 64 = ((c.size % 64 : Nat) : Int) := rfl
      have c1 : (((c.size % 64 : Nat) : Int) != 56) = true := by simp; omega
      have c2 : ((c.size : Int) % 64 != 56) = true := by simp; omega
      have c3 : ((c.size : Int).tmod 64 != 56) = true := by rw [hm]; exact c1
      have c4 : ((c.size : Int).tmod 64 == 56) = false := by rw [hm]; simp; omega
      have HNE := Lib.hid hne
      clear hne hm
      go_wp2_with fail
      go_roundg (r - (i + 1))
      case measure => have := hk.out; omega
      case rel =>
        obtain ⟨k1, k2, k3⟩ := hk.out
        refine ⟨_, i + 1, rfl, by go_num, ⟨by omega, ?_, ?_⟩, HT.out⟩
        · rw [ByteArray.size_append, k2]; rfl
        · rw [ByteArray.data_append, Array.toList_append, k3, List.append_assoc, List.replicate_succ']
    · obtain rfl : i = r := by have := hk.out.1; omega
      have heq : c.size % 64 = 56 := by
        have h1 := hk.out.2.1
        have h2 := HR.out
        unfold padR at h2
        omega
      have hm : (c.size : Int).tmod 64 = ((c.size % 64 : Nat) : Int) := rfl
      have c1 : (((c.size % 64 : Nat) : Int) != 56) = false := by rw [heq]; rfl
      have c2 : ((c.size : Int) % 64 != 56) = false := by simp; omega
      have c3 : ((c.size : Int).tmod 64 != 56) = false := by rw [hm]; exact c1
      have c4 : ((c.size : Int).tmod 64 == 56) = true := by rw [hm, heq]; rfl
      have hw8 : wrap64 ((n : Int) * 8) = ((n * 8 : Nat) : Int) := by have := HS.out; have := HN.out; have h := IntWalk.wrap64_in ((n : Int) * 8) ⟨by omega, by omega⟩; rw [h]; omega
      obtain ⟨N, hN⟩ : ∃ N, n * 8 = N := ⟨_, rfl⟩
      rw [hN] at hw8
      have HW8 := Lib.hid hw8
      have HN8 := Lib.hid hN
      clear heq hm hN
      go_wp2_with fail
      clear c1 c2 c3 c4 hw8
      have HT1 := HT.out
      go_loopg [3, 5, 6] 8 (fun m v3 v5 v6 wr => ∃ (t : ByteArray) (k : Nat), v3 = .int .i64 ((N / 2 ^ (8 * k) : Nat) : Int) ∧ v5 = .string t ∧ v6 = .int .i64 (k : Int) ∧ Hid (m + k = 8 ∧ t.data.toList = (be8 N).drop (8 - k)) ∧ Hid (Turn Nope w wr))
      case atStart => exact ⟨⟨#[]⟩, 0, by rw [Nat.mul_zero, Nat.pow_zero, Nat.div_one, HW8.out], rfl, rfl, ⟨rfl, rfl⟩, HT.out⟩
      case round =>
        obtain ⟨t, k, rfl, rfl, rfl, hk2, hT⟩ := hrel
        by_cases hlt : k < 8
        · have b1 : decide ((k : Int) < 8) = true := by simp; omega
          have b1n : decide (k < 8) = true := by simp; omega
          have HW : Hid (wrap64 ((k : Int) + 1) = (k : Int) + 1) := IntWalk.wrap64_in _ ⟨by omega, by omega⟩
          obtain ⟨q, hq⟩ : ∃ q, N / 2 ^ (8 * k) = q := ⟨_, rfl⟩
          have HQ := Lib.hid hq
          have htz : t.size = k := by
            have h1 : t.data.toList.length = t.size := rfl
            rw [← h1, hk2.out.2, List.length_drop, be8_len]; omega
          have hq1 : ¬ 9223372036854775807 < 1 + t.size := by omega
          have HTZ := Lib.hid htz
          rw [hq]
          clear hq htz
          go_wp2_with fail
          have hqb : q ≤ 9223372036854775807 := by
            have h1 : q ≤ N := by rw [← HQ.out]; exact Nat.div_le_self _ _
            have h2 := HN8.out; have h3 := HS.out; have h4 := HN.out; omega
          have hw : wrap64 ((q : Int) / 256) = ((q / 256 : Nat) : Int) := by have h := IntWalk.wrap64_in ((q : Int) / 256) ⟨by omega, by omega⟩; rw [h]; rfl
          have hnx : N / 2 ^ (8 * (k + 1)) = q / 256 := by
            rw [← HQ.out, Nat.div_div_eq_div_mul, show 8 * (k + 1) = 8 * k + 8 by omega, Nat.pow_add]
          go_roundg (8 - (k + 1))
          case measure => have := hk2.out; omega
          case rel =>
            refine ⟨_, k + 1, by rw [hw, hnx], rfl, by go_num, ⟨by have := hk2.out.1; omega, ?_⟩, hT.out.alloc _⟩
            rw [be8_drop N k hlt, HQ.out, ← hk2.out.2, ByteArray.data_append, Array.toList_append, strOfNums_data]
            rfl
        · obtain rfl : k = 8 := by have := hk2.out.1; omega
          have b1 : decide (((8 : Nat) : Int) < 8) = false := by decide
          have htz : t.data.toList = be8 N := hk2.out.2
          have hts : t.size = 8 := by
            have h1 : t.data.toList.length = t.size := rfl
            rw [← h1, htz, be8_len]
          have hcs : ¬ 9223372036854775807 < c.size + t.size := by have := hk.out.2.1; have := HS.out; have := HN.out; have := HR64.out; omega
          have HZ := Lib.hid (And.intro htz hts)
          clear hlt htz hts
          go_wp2_with fail
          go_ret
          refine ⟨c ++ t, rfl, ?_, ?_, hT.out⟩
          · rw [ByteArray.data_append, Array.toList_append, hk.out.2.2, HZ.out.1]
            unfold longL
            rw [show s.data.toList.length = n from HN.out, HR.out, HN8.out]
          · rw [ByteArray.size_append, hk.out.2.1, HZ.out.2, HR.out]
end Go.Proofs.Ytojfknogdknhkaa
