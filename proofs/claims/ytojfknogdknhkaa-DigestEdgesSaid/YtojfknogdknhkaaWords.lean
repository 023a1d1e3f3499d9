/- 64 bytes as words, and what they are spread to: the walk of words. -/
import Derived.Test.YtojfknogdknhkaaPlain
import Derived.Deep.RegionLaw
import Derived.Deep.RegionHeld3
set_option maxRecDepth 16000
set_option linter.unusedVariables false
set_option linter.unusedSimpArgs false
namespace Go.Proofs.Ytojfknogdknhkaa
open Go.RowKit
variable {w w' : World}
def u32s (l : List Int) : List Value := l.map fun x => Value.int .u32 x
theorem Try.info39 : (Try.prog.info? 39).map (fun i => (i.zero, i.size, i.bytes)) = some (some (.int .u32 0), 1, 4) := by kernel_rfl
theorem news_new (W : World) (cs : Array Value) (t : TypeId) : ∀ j u, cs.toList[j]? = some u → (W.alloc (.cells cs t)).cell? ((⟨W.heap.size, 0, none⟩ : Addr).add j) = some u := by
  intro j u hj
  rw [show (⟨W.heap.size, 0, none⟩ : Addr).add j = ⟨W.heap.size, j, none⟩ by unfold Addr.add; split <;> simp_all, blk_cell (blk_new W _)]
  simpa using hj
def zeros64 : Array Value := (List.replicate 64 (Value.int .u32 0)).toArray
theorem mk64 (w : World) : (Instr.makeSlice 40 (.int .i64 0) (.int .i64 64)).run Try.prog w = .ok (.slice (some ⟨w.heap.size, 0, none⟩) 0 64) (w.alloc (.cells zeros64 39)) := by kernel_rfl
attribute [local go_sem] mk64
/-- A word, as far as it is read. -/
def partW (s : List UInt8) (i : Nat) : Nat → Int
  | 0 => 0
  | k + 1 => partW s i k * 256 + byteAt s (4 * i + k)
theorem partW_b (s : List UInt8) (i : Nat) : ∀ k, k ≤ 3 → 0 ≤ partW s i k ∧ partW s i k < 16777216
  | 0, _ => by unfold partW; omega
  | 1, _ => by have := byteAt_b s (4 * i + 0); unfold partW partW; omega
  | 2, _ => by have h0 := byteAt_b s (4 * i + 0); have h1 := byteAt_b s (4 * i + 1); unfold partW partW partW; omega
  | 3, _ => by have h0 := byteAt_b s (4 * i + 0); have h1 := byteAt_b s (4 * i + 1); have h2 := byteAt_b s (4 * i + 2); unfold partW partW partW partW; omega
theorem partW_all (s : List UInt8) (i : Nat) : partW s i 4 = word0 s i := by
  unfold partW partW partW partW partW word0
  rw [Nat.add_zero]; omega
theorem or8 (x b : Int) (h0 : 0 ≤ x) (h1 : x < 16777216) (h2 : 0 ≤ b) (h3 : b < 256) : bits .or .u32 (x * 256 % 4294967296) b = x * 256 + b := by
  rw [u32_or _ _ (by omega) (by omega) (by omega) (by omega), nat_join 8 _ _ (by show _ % 256 = 0; omega) (by show _ < 256; omega)]
  omega
theorem byte_at {s : ByteArray} {j n : Nat} (h : j < s.size) (hj : n = j) : (s[j].toNat : Int) = byteAt s.data.toList n := by
  subst hj
  unfold byteAt
  rw [List.getD_eq_getElem?_getD, Array.getElem?_toList, Array.getElem?_eq_getElem (h := h)]
  rfl
theorem row_reads {w : World} {base e n : Nat} {v : Value} {xs : List Value} (h : w.ownsRow base e 1 v n xs) (hn : 0 < n) :
    ∃ g cap, v = .slice (some ⟨g, 0, none⟩) n cap ∧ ∀ j u, xs[j]? = some u → w.cell? ⟨g, j, none⟩ = some u := by
  rcases h.2 with ⟨_, h0⟩ | ⟨g, cap, cur, rfl, hb, hh, r1, r2, r3, r4⟩
  · omega
  · refine ⟨g, cap, rfl, fun j u hj => ?_⟩
    rw [blk_cell hh]
    have hj' : j < xs.length := (List.getElem?_eq_some_iff.1 hj).1
    rw [h.1] at hj'
    rw [← hj, ← r4, List.getElem?_take_of_lt hj', Array.getElem?_toList]
theorem u32s_at {l : List Int} {j : Nat} (h : j < l.length) : (u32s l)[j]? = some (.int .u32 (l.getD j 0)) := by
  unfold u32s
  rw [List.getElem?_map, List.getD_eq_getElem?_getD, List.getElem?_eq_getElem h]; rfl
theorem getD_w {l : List Int} (h : ∀ x ∈ l, W32 x) (j : Nat) : W32 (l.getD j 0) := by
  rw [List.getD_eq_getElem?_getD]
  cases hj : l[j]? with
  | none => unfold W32; simp
  | some x => exact h x (List.mem_of_getElem? hj)
set_option maxHeartbeats 4000000 in
theorem words_any (s : ByteArray) (hs : 64 ≤ s.size) (hmx : s.size ≤ 9223372036854775807) (w : World) :
    Calls Try.prog 28 #[.string s] w fun e w' => ∃ v, e = .returned v ∧ w'.ownsRow w.heap.size 39 1 v 64 (u32s (wordsP s.data.toList)) ∧ Turn Nope w w' := by
  obtain ⟨i39, hi39, hz39, hs39, hb39⟩ := info_parts Try.info39
  have I39 := Lib.hid (And.intro hi39 (And.intro hz39 (And.intro hs39 hb39)))
  clear hi39 hz39 hs39 hb39
  go_enter Try.func28, Try.ntmps28
  go_wp2_with fail
  have HR0 : Hid ((w.alloc (.cells zeros64 39)).ownsRow w.heap.size 39 1 (.slice (some ⟨w.heap.size, 0, none⟩) 0 64) 0 (u32s ((first16 s.data.toList).take 0))) := ⟨rfl, .inr ⟨w.heap.size, 64, zeros64, rfl, Nat.le_refl _, blk_new _ _, by omega, by decide, by simp [zeros64], rfl⟩⟩
  have HT0 : Hid (Turn Nope w (w.alloc (.cells zeros64 39))) := (Turn.refl _ _).alloc _
  go_loopg [3, 13] 16 (fun n u3 v13 wr => ∃ (i : Nat), v13 = .int .i64 (i : Int) ∧ Hid (n + i = 16) ∧ Hid (wr.ownsRow w.heap.size 39 1 u3 i (u32s ((first16 s.data.toList).take i)) ∧ Turn Nope w wr))
  case atStart => exact ⟨0, rfl, rfl, HR0.out, HT0.out⟩
  case round =>
    obtain ⟨i, rfl, hn, hS⟩ := hrel
    clear HR0 HT0
    by_cases hlt : i < 16
    · have b1 : decide ((i : Int) < 16) = true := by simp; omega
      have b1n : decide (i < 16) = true := by simp; omega
      have HW : Hid (wrap64 ((i : Int) + 1) = (i : Int) + 1) := IntWalk.wrap64_in _ ⟨by omega, by omega⟩
      go_wp2_with fail
      go_loopg [5, 16] 4 (fun n v5 v16 w2 => ∃ (k : Nat), v16 = .int .i64 (k : Int) ∧ v5 = .int .u32 (partW s.data.toList i k) ∧ Hid (n + k = 4) ∧ w2 = wr)
      case atStart => exact ⟨0, rfl, rfl, rfl, rfl⟩
      case round =>
        obtain ⟨k, rfl, rfl, hk, rfl⟩ := hrel
        by_cases hlk : k < 4
        · have c1 : decide ((k : Int) < 4) = true := by simp; omega
          have c1n : decide (k < 4) = true := by simp; omega
          have HWK : Hid (wrap64 ((k : Int) + 1) = (k : Int) + 1) := IntWalk.wrap64_in _ ⟨by omega, by omega⟩
          obtain ⟨j, hj⟩ : ∃ j : Nat, 4 * i + k = j := ⟨_, rfl⟩
          have hw1 : wrap64 (4 * (i : Int)) = 4 * (i : Int) := IntWalk.wrap64_in _ ⟨by omega, by omega⟩
          have hw2 : wrap64 (4 * (i : Int) + (k : Int)) = (j : Int) := by have := IntWalk.wrap64_in (4 * (i : Int) + (k : Int)) ⟨by omega, by omega⟩; rw [this]; omega
          have j0 : (0 : Int) ≤ (j : Int) := by omega
          have j1 : (j : Int) < (s.size : Int) := by omega
          have j2 : j < s.size := by omega
          go_wp2_with fail
          go_roundg (4 - (k + 1))
          case measure => have := hk.out; omega
          case rel =>
            refine ⟨k + 1, by go_num, ?_, by have := hk.out; show _ = _; omega, rfl⟩
            have hb := partW_b s.data.toList i k (by omega)
            have h8 := byteAt_b s.data.toList (4 * i + k)
            have he : ((s[j].toNat : Int)) % 4294967296 = byteAt s.data.toList (4 * i + k) := by
              have : ((s[j].toNat : Int)) = byteAt s.data.toList (4 * i + k) := byte_at j2 hj
              rw [this]; omega
            rw [he, or8 _ _ hb.1 hb.2 h8.1 h8.2]; rfl
        · obtain rfl : k = 4 := by have := hk.out; omega
          have c1 : decide (((4 : Nat) : Int) < 4) = false := by decide
          clear hlk
          rw [partW_all]
          go_wp2_with ((at_builtin; go_loud (refine wpList_append_lies _ rfl _ _ _ rfl w.heap.size 39 i39 _ 1 4 Try.underlying40 I39.out.1 I39.out.2.1 I39.out.2.2.1 I39.out.2.2.2 rfl (by omega) u3 i (u32s ((first16 s.data.toList).take i)) rfl (own_nope hS.out.1 ((Turn.refl _ _).alloc _)) ⟨wr.heap.size, 0, none⟩ 1 1 [.int .u32 (word0 s.data.toList i)] rfl rfl (news_new wr _ 39) (by intro u hu; simp at hu; subst hu; rfl) (by omega) (by show i + 1 ≤ 9223372036854775807; omega) (by omega) (Nat.le_trans hS.out.2.size (by simp)) (wr.heap.size + 1) (by simp) ?_; intro g1 cap1 w6 hown hgr hat hlt2; have HO6 := Lib.hid hown; have HG6 := Lib.hid hgr; clear hown hgr hat hlt2)))
          go_roundg (16 - (i + 1))
          case measure => have := hn.out; omega
          case rel =>
            refine ⟨i + 1, by go_num, by have := hn.out; show _ = _; omega, ?_, (hS.out.2.alloc _).growR HG6.out (own_nope hS.out.1 ((Turn.refl _ _).alloc _)) (Nat.le_refl _)⟩
            have h1 := HO6.out
            have h2 : (first16 s.data.toList).take (i + 1) = (first16 s.data.toList).take i ++ [word0 s.data.toList i] := by
              unfold first16
              rw [← List.map_take, ← List.map_take, List.take_range, List.take_range, Nat.min_eq_left (by omega), Nat.min_eq_left (by omega), List.range_succ, List.map_append]; rfl
            rw [h2]
            unfold u32s at *
            rw [List.map_append]
            exact h1
    · obtain rfl : i = 16 := by have := hn.out; omega
      have b1 : decide (((16 : Nat) : Int) < 16) = false := by decide
      clear hlt
      rw [List.take_of_length_le (by simp [first16])] at hS
      go_wp2_with fail
      go_loopg [3, 7] 48 (fun n u3 v7 wr => ∃ (p : Nat) (l : List Int), v7 = .int .i64 (p : Int) ∧ Hid (n + p = 64 ∧ 16 ≤ p ∧ l.length = p ∧ l = growW (p - 16) (first16 s.data.toList)) ∧ Hid (wr.ownsRow w.heap.size 39 1 u3 p (u32s l) ∧ Turn Nope w wr))
      case atStart => exact ⟨16, first16 s.data.toList, rfl, ⟨rfl, by decide, rfl, rfl⟩, hS⟩
      case round =>
        obtain ⟨p, l, rfl, hm, hR⟩ := hrel
        clear hS
        obtain ⟨hn0, h16, hl, hlg⟩ := hm.out
        have HLG := Lib.hid hlg
        have hW : ∀ x ∈ l, W32 x := by rw [hlg]; exact growW_w _ _ (first16_w _)
        have HW := Lib.hid hW
        clear hlg hW
        by_cases hlt : p < 64
        · have b1 : decide ((p : Int) < 64) = true := by simp; omega
          have b1n : decide (p < 64) = true := by simp; omega
          obtain ⟨q15, e15⟩ : ∃ q, p - 15 = q := ⟨_, rfl⟩
          obtain ⟨q2, e2⟩ : ∃ q, p - 2 = q := ⟨_, rfl⟩
          obtain ⟨q16, e16⟩ : ∃ q, p - 16 = q := ⟨_, rfl⟩
          obtain ⟨q7, e7⟩ : ∃ q, p - 7 = q := ⟨_, rfl⟩
          have hw15 : IntKind.i64.wrap ((p : Int) - 15) = (q15 : Int) := by rw [IntKind.wrap_i64]; omega
          have hw2 : IntKind.i64.wrap ((p : Int) - 2) = (q2 : Int) := by rw [IntKind.wrap_i64]; omega
          have hw16 : IntKind.i64.wrap ((p : Int) - 16) = (q16 : Int) := by rw [IntKind.wrap_i64]; omega
          have hw7 : IntKind.i64.wrap ((p : Int) - 7) = (q7 : Int) := by rw [IntKind.wrap_i64]; omega
          have HWK : Hid (wrap64 ((p : Int) + 1) = (p : Int) + 1) := IntWalk.wrap64_in _ ⟨by omega, by omega⟩
          obtain ⟨g, cap, rfl, hrd⟩ := row_reads hR.out.1 (by omega)
          obtain ⟨x15, ex15⟩ : ∃ x, l.getD q15 0 = x := ⟨_, rfl⟩
          obtain ⟨x2, ex2⟩ : ∃ x, l.getD q2 0 = x := ⟨_, rfl⟩
          obtain ⟨x16, ex16⟩ : ∃ x, l.getD q16 0 = x := ⟨_, rfl⟩
          obtain ⟨x7, ex7⟩ : ∃ x, l.getD q7 0 = x := ⟨_, rfl⟩
          have c15 := hrd q15 _ (u32s_at (by omega))
          have c2 := hrd q2 _ (u32s_at (by omega))
          have c16 := hrd q16 _ (u32s_at (by omega))
          have c7 := hrd q7 _ (u32s_at (by omega))
          have W15 : Hid (W32 x15) := ex15 ▸ getD_w HW.out q15
          have W2 : Hid (W32 x2) := ex2 ▸ getD_w HW.out q2
          rw [ex15] at c15
          rw [ex2] at c2
          rw [ex16] at c16
          rw [ex7] at c7
          have HEX := Lib.hid (And.intro ex15 (And.intro ex2 (And.intro ex16 ex7)))
          have j15 : (0 : Int) ≤ (q15 : Int) ∧ (q15 : Int) < (p : Int) := by omega
          have j2 : (0 : Int) ≤ (q2 : Int) ∧ (q2 : Int) < (p : Int) := by omega
          have j16 : (0 : Int) ≤ (q16 : Int) ∧ (q16 : Int) < (p : Int) := by omega
          have j7 : (0 : Int) ≤ (q7 : Int) ∧ (q7 : Int) < (p : Int) := by omega
          have HE := Lib.hid (And.intro e15 (And.intro e2 (And.intro e16 e7)))
          have HN := Lib.hid (And.intro hn0 (And.intro h16 hl))
          clear ex15 ex2 ex16 ex7 e15 e2 e16 e7 hrd hn0 h16 hl
          go_wp2_with fail
          go_quiet (fail)
          have HR3 : Hid ((wr.drewN nq).ownsRow w.heap.size 39 1 (.slice (some ⟨g, 0, none⟩) p cap) p (u32s l) ∧ Turn Nope w (wr.drewN nq)) := ⟨own_nope hR.out.1 ((Turn.refl _ _).drewN _), hR.out.2.drewN _⟩
          have d16 : (wr.drewN nq).cell? ⟨g, q16, none⟩ = some (.int .u32 x16) := c16
          have d7 : (wr.drewN nq).cell? ⟨g, q7, none⟩ = some (.int .u32 x7) := c7
          clear c15 c2 c16 c7 hR
          generalize wr.drewN nq = w3 at HR3 d16 d7 ⊢
          go_wp2_with fail
          refine (rot_25 x15 W15.out _).mono ?_
          rintro e w2 ⟨rfl, rfl⟩
          go_wp2_with fail
          refine (rot_14 x15 W15.out _).mono ?_
          rintro e w2 ⟨rfl, rfl⟩
          go_wp2_with fail
          refine (rot_15 x2 W2.out _).mono ?_
          rintro e w2 ⟨rfl, rfl⟩
          go_wp2_with fail
          refine (rot_13 x2 W2.out _).mono ?_
          rintro e w2 ⟨rfl, rfl⟩
          go_wp2_with fail
          obtain ⟨s0, hs0⟩ : ∃ s, sig0 x15 = s := ⟨_, rfl⟩
          obtain ⟨s1, hs1⟩ : ∃ s, sig1 x2 = s := ⟨_, rfl⟩
          have HS0 := Lib.hid hs0
          have HS1 := Lib.hid hs1
          unfold sig0 at hs0
          unfold sig1 at hs1
          rw [hs0, hs1]
          clear hs0 hs1
          go_region_law (first
            | (go_loud (refine step_append_lies _ rfl (.tmp 65) (.tmp 81) 40 rfl w.heap.size 39 i39 _ 1 4 Try.underlying40 I39.out.1 I39.out.2.1 I39.out.2.2.1 I39.out.2.2.2 rfl (by omega) (.slice (some ⟨g, 0, none⟩) p cap) p (u32s l) rfl (own_nope HR3.out.1 (((Turn.refl _ _).alloc _).drew)) ⟨w2.heap.size, 0, none⟩ 1 1 [.int .u32 (IntKind.u32.wrap (IntKind.u32.wrap (IntKind.u32.wrap (x16 + s0) + x7) + s1))] rfl rfl (news_new w2 _ 39) (by intro u hu; simp at hu; subst hu; rfl) (by omega) (by have := HN.out; show p + 1 ≤ 9223372036854775807; omega) (by have := HN.out; omega) (Nat.le_trans HR3.out.2.size (by simp)) (w2.heap.size + 1) (by simp) ?_; intro g1 cap1 w6 hown hgr hat hlt2; have HO6 := Lib.hid hown; have HG6 := Lib.hid hgr; clear hown hgr hat hlt2)))
          all_goals
            have HOX := HO6.out
            have HTX := (((HR3.out.2.alloc _).drew).growR HG6.out (own_nope HR3.out.1 (((Turn.refl _ _).alloc _).drew)) (Nat.le_refl _))
            clear HR3 HO6 HG6 d16 d7
            go_wp2_with fail
            go_roundg (64 - (p + 1))
            case measure => have := HN.out; omega
            case rel =>
              obtain ⟨n1, n2, n3⟩ := HN.out
              obtain ⟨f15, f2, f16, f7⟩ := HE.out
              obtain ⟨k15, k2, k16, k7⟩ := HEX.out
              have hnx : IntKind.u32.wrap (IntKind.u32.wrap (IntKind.u32.wrap (x16 + s0) + x7) + s1) = nextW l := by
                unfold nextW
                rw [n3, f15, f2, f16, f7, k15, k2, k16, k7, HS0.out, HS1.out, IntKind.wrap_u32, IntKind.wrap_u32, IntKind.wrap_u32]
                omega
              refine ⟨p + 1, l ++ [nextW l], by go_num, ⟨by omega, by omega, by simp [n3], ?_⟩, ?_, HTX⟩
              · rw [show p + 1 - 16 = (p - 16) + 1 by omega, growW_add, ← HLG.out]
              · unfold u32s at *
                rw [List.map_append, ← hnx]
                exact HOX
        · have hp : p = 64 := by omega
          clear hlt
          subst hp
          have b1 : decide (((64 : Nat) : Int) < 64) = false := by decide
          obtain ⟨A, c, rfl, hc⟩ := own_slice hR.out.1
          go_wp2_with fail
          go_ret
          refine ⟨_, rfl, ?_, hR.out.2⟩
          have := hR.out.1
          rw [HLG.out] at this
          exact this
end Go.Proofs.Ytojfknogdknhkaa
