/- A hash: Sum. -/
import Derived.Test.YtojfknogdknhkaaHash
import Derived.Laws.BytesArg
import Derived.Test.YtojfknogdknhkaaArr
set_option maxRecDepth 16000
set_option linter.unusedVariables false
set_option linter.unusedSimpArgs false
namespace Go.Proofs.Ytojfknogdknhkaa
open Go.RowKit
variable {w w' : World}
theorem rep0 (r : Nat) : Lib.repeatL [(0 : UInt8)] r = List.replicate r 0 := by
  induction r with
  | zero => rfl
  | succ r ih => unfold Lib.repeatL; rw [ih]; rfl
theorem conv1 (W : World) (X : Int) : (convert 27 9 (.slice (some ⟨W.heap.size, 0, none⟩) 1 1)).run Try.prog (W.alloc (.cells #[.int .u8 X] 5)) = .ok (.string (strOfNums [X])) (W.alloc (.cells #[.int .u8 X] 5)) :=
  run_convert_bytes_arg (P := Try.prog) (W.alloc (.cells #[.int .u8 X] 5)) 27 5 Try.underlying27 Try.underlying5 W.heap.size 0 1 1 [X] rfl (fun i hi => by
    have : i = 0 := by omega
    subst this
    rw [blk_cell (blk_new W _)]; rfl) 9 Try.underlying9
attribute [local go_sem] conv1
/-- Eight bytes, the greatest first. -/
def be8 (n : Nat) : List UInt8 := [7, 6, 5, 4, 3, 2, 1, 0].map fun i => UInt8.ofNat (n / 2 ^ (8 * i) % 256)
theorem be8_take (n i : Nat) (hi : i < 8) : (be8 n).take (8 - i) = (be8 n).take (8 - (i + 1)) ++ [UInt8.ofNat (n / 2 ^ (8 * i) % 256)] := by
  match i, hi with
  | 0, _ => rfl
  | 1, _ => rfl
  | 2, _ => rfl
  | 3, _ => rfl
  | 4, _ => rfl
  | 5, _ => rfl
  | 6, _ => rfl
  | 7, _ => rfl
theorem byte_of (n i : Nat) (hn : n ≤ 1152921504606846976) : (IntKind.u64.wrap (IntKind.u64.wrap (n : Int) * 8) / 2 ^ (8 * i) % 256).toNat = n * 8 / 2 ^ (8 * i) % 256 := by
  have h1 : IntKind.u64.wrap (n : Int) = (n : Int) := by rw [IntKind.wrap_u64]; omega
  have h2 : IntKind.u64.wrap ((n : Int) * 8) = ((n * 8 : Nat) : Int) := by rw [IntKind.wrap_u64]; omega
  rw [h1, h2]
  have h3 : ((n * 8 : Nat) : Int) / 2 ^ (8 * i) % 256 = ((n * 8 / 2 ^ (8 * i) % 256 : Nat) : Int) := by
    rw [Int.natCast_emod, Int.natCast_ediv, Int.natCast_pow]; rfl
  rw [h3, Int.toNat_natCast]
def stL (t : St) : List Int := [t.a, t.b, t.c, t.d, t.e, t.f, t.g, t.h]
def stBytes (t : St) : List Int := (stL t).flatMap fun x => [x / 16777216 % 256, x / 65536 % 256, x / 256 % 256, x % 256]
def fillA (l : List Int) (m : Nat) : Array Value := ((List.range 32).map fun j => Value.int .u8 (if j < m then l.getD j 0 else 0)).toArray
def padL (b : ByteArray) (n : Nat) : List UInt8 := b.data.toList ++ [128] ++ List.replicate ((119 - b.size) % 64) 0 ++ be8 (n * 8)
def outA (t : St) : Array Value := ((stBytes t).map fun x => Value.int .u8 x).toArray
theorem st_word {V : World} {g i : Nat} {t : St} (h : V.heap[g]? = some (.cells (stA t) 39 (0, 0))) (hi : i < 8) : V.cell? ⟨g, i, none⟩ = some (.int .u32 ((stL t).getD i 0)) := by
  rw [blk_cell h]
  match i, hi with
  | 0, _ => rfl
  | 1, _ => rfl
  | 2, _ => rfl
  | 3, _ => rfl
  | 4, _ => rfl
  | 5, _ => rfl
  | 6, _ => rfl
  | 7, _ => rfl
theorem st_byte (t : St) (i j : Nat) (hi : i < 8) (hj : j < 4) : (stBytes t).getD (4 * i + j) 0 = (stL t).getD i 0 / 2 ^ (24 - 8 * j) % 256 := by
  have h1 : i = 0 ∨ i = 1 ∨ i = 2 ∨ i = 3 ∨ i = 4 ∨ i = 5 ∨ i = 6 ∨ i = 7 := by omega
  have h2 : j = 0 ∨ j = 1 ∨ j = 2 ∨ j = 3 := by omega
  rcases h1 with rfl | rfl | rfl | rfl | rfl | rfl | rfl | rfl <;> rcases h2 with rfl | rfl | rfl | rfl <;> simp [stBytes, stL]
theorem fill_set (l : List Int) (m : Nat) (hm : m < 32) : (fillA l m).setIfInBounds m (.int .u8 (l.getD m 0)) = fillA l (m + 1) := by
  unfold fillA
  rw [List.setIfInBounds_toArray]
  congr 1
  apply List.ext_getElem
  · simp
  · intro j h1 h2
    simp only [List.length_map, List.length_range] at h2
    rw [List.getElem_set]
    simp only [List.getElem_map, List.getElem_range]
    by_cases hj : m = j
    · subst hj; simp
    · rw [if_neg hj]
      by_cases hjm : j < m
      · rw [if_pos hjm, if_pos (by omega)]
      · rw [if_neg hjm, if_neg (by omega)]
theorem stBytes_length (t : St) : (stBytes t).length = 32 := rfl
theorem outA_size (t : St) : (outA t).size = 32 := rfl
theorem outA_one (t : St) : ∀ v ∈ (outA t).toList, v.oneCell' = true := by
  intro v hv
  unfold outA at hv
  simp only [List.toList_toArray] at hv
  obtain ⟨x, _, rfl⟩ := List.mem_map.1 hv
  rfl
theorem fill_out (t : St) : fillA (stBytes t) (4 * 8) = outA t := by
  unfold fillA outA
  congr 1
set_option maxHeartbeats 8000000 in
theorem sum_any (p : Nat) (s : St) (hs : WSt s) (b : ByteArray) (n : Nat) (hn : n ≤ 1152921504606846976) (hbs : b.size < 64) (w : World) (h : w.heap[p]? = some (.cells (hsA s b n) 55 (0, 0))) (hp : p < w.heap.size) :
    Calls Try.prog 14 #[.pointer (some ⟨p, 0, none⟩)] w fun e w' => e = .returned (.agg (outA (feed ((padL b n).length / 64) s (padL b n)).1)) ∧ Turn Nope w w' := by
  have H := Lib.hid h
  have HN := Lib.hid (And.intro hn (And.intro hbs hp))
  clear h hn hbs hp
  go_enter Try.func14, Try.ntmps14
  go_wp2_with fail
  have hW0 : ∃ W0 arr, w.alloc (.cells arr 24) = W0 ∧ arr = (List.replicate 32 (Value.int .u8 0)).toArray := ⟨_, _, rfl, rfl⟩
  generalize hW : World.alloc w _ = W0
  have HA : Hid (∃ arr : Array Value, arr.size = 32 ∧ W0.heap[w.heap.size]? = some (.cells arr 24 (0, 0))) := ⟨_, rfl, by rw [← hW]; exact blk_new _ _⟩
  have HT : Hid (Turn Nope w W0) := by rw [← hW]; exact (Turn.refl _ _).alloc _
  clear hW hW0
  have HP := Lib.hid (HT.out.blk H.out fun h => h)
  have c8 := (hs_cells HP.out).2.1
  obtain ⟨r, hr⟩ : ∃ r, (119 - b.size) % 64 = r := ⟨_, rfl⟩
  obtain ⟨m, hm⟩ : ∃ m, 119 - b.size = m := ⟨_, rfl⟩
  have hw1 : wrap64 (119 - (b.size : Int)) = (m : Int) := by rw [IntWalk.wrap64_in _ ⟨by have := HN.out; omega, by have := HN.out; omega⟩]; have := HN.out; omega
  have hw2 : IntKind.i64.wrap (119 - (b.size : Int)) = (m : Int) := by rw [IntKind.wrap_i64]; have := HN.out; omega
  have hr2 : Int.tmod (m : Int) 64 = (r : Int) := by rw [← hr, ← hm]; rfl
  have HR : Hid (r < 64) := by show r < 64; omega
  have HRE := Lib.hid hr
  have hs1 : ¬ 9223372036854775807 < b.size + 1 := by have := HN.out; omega
  have hs2 : ¬ 9223372036854775807 < b.size + 1 + (Lib.repeatL [0] r).length := by rw [rep0]; simp; have := HN.out; have := HR.out; omega
  clear hr hm
  go_region_law (first
    | (rw [if_pos (by simp [Region.wanted])]; go_simp; refine (Try.strings_Repeat ⟨#[0]⟩ r _ (by have := HR.out; omega) (by have := HR.out; show 1 * r ≤ _; omega)).mono ?_; rintro e w1 ⟨rfl, hb1⟩; have HB1 := Lib.hid hb1; have d8 := (hs_cells ((Turn.ofBelow hb1 Nope).blk (show W0.drew.heap[p]? = _ from HP.out) fun h => h)).2.1; clear hb1))
  all_goals
    obtain ⟨PB, hPB⟩ : ∃ PB, b ++ ⟨#[128]⟩ ++ ⟨(Lib.repeatL [0] r).toArray⟩ = PB := ⟨_, rfl⟩
    have hpl : PB.data.toList = b.data.toList ++ [128] ++ List.replicate r 0 := by rw [← hPB, ← rep0]; simp
    have hps : PB.size = b.size + 1 + r := by rw [← hPB, ByteArray.size_append, ByteArray.size_append, rep0]; show b.size + 1 + (List.replicate r (0 : UInt8)).toArray.size = _; rw [List.size_toArray, List.length_replicate]
    have HPB := Lib.hid (And.intro hpl hps)
    rw [hPB]
    have HQ : Hid (w1.heap[p]? = some (.cells (hsA s b n) 55 (0, 0)) ∧ Turn Nope w w1 ∧ ∃ arr : Array Value, arr.size = 32 ∧ w1.heap[w.heap.size]? = some (.cells arr 24 (0, 0))) := by
      have hT : Turn Nope W0 w1 := (Turn.refl Nope W0).drew.trans (Turn.ofBelow HB1.out Nope)
      obtain ⟨arr, ha, hh⟩ := HA.out
      exact ⟨hT.blk HP.out fun h => h, HT.out.trans hT, arr, ha, hT.blk hh fun h => h⟩
    clear hpl hps hPB hs1 hs2 hr2 hw1 hw2 c8 HA HT HP HB1
    try clear d8
    have hps := HPB.out.2
    go_wp2_with fail
    go_loopg [3, 4] 8 (fun k v3 v4 wr => ∃ (c : ByteArray), v4 = .int .i64 ((k : Int) - 1) ∧ v3 = .string c ∧ Hid (k ≤ 8 ∧ c.size = PB.size + (8 - k) ∧ c.data.toList = PB.data.toList ++ (be8 (n * 8)).take (8 - k)) ∧ Hid (wr.heap[p]? = some (.cells (hsA s b n) 55 (0, 0)) ∧ Turn Nope w wr ∧ ∃ arr : Array Value, arr.size = 32 ∧ wr.heap[w.heap.size]? = some (.cells arr 24 (0, 0))))
    case atStart => exact ⟨PB, rfl, rfl, ⟨by decide, rfl, by simp⟩, HQ.out⟩
    case round =>
      obtain ⟨c, rfl, rfl, hk, hS⟩ := hrel
      clear HQ
      by_cases hlt : 1 ≤ gk
      · obtain ⟨i, rfl⟩ : ∃ i, gk = i + 1 := ⟨gk - 1, by omega⟩
        have hi : i < 8 := by have := hk.out.1; omega
        rw [show (((i + 1 : Nat) : Int) - 1) = (i : Int) by omega]
        have b1 : decide ((0 : Int) ≤ (i : Int)) = true := by simp
        have c9 := (hs_cells hS.out.1).2.2
        have hwi : wrap64 ((i : Int) - 1) = (i : Int) - 1 := IntWalk.wrap64_in _ ⟨by omega, by omega⟩
        have hcz : ¬ 9223372036854775807 < c.size + 1 := by have := hk.out.2.1; have := HN.out; have := HR.out; omega
        have hw8 : wrap64 (8 * (i : Int)) = 8 * (i : Int) := IntWalk.wrap64_in _ ⟨by omega, by omega⟩
        skip
        go_wp2_with fail
        go_roundg i
        case measure => omega
        case rel =>
          obtain ⟨h1, h2, arr, h3, h4⟩ := hS.out
          obtain ⟨k1, k2, k3⟩ := hk.out
          refine ⟨c ++ strOfNums [IntKind.u64.wrap (IntKind.u64.wrap (n : Int) * 8) / 2 ^ (8 * i) % 256], rfl, rfl, ⟨by omega, ?_, ?_⟩, blk_alloc h1 _, h2.alloc _, arr, h3, blk_alloc h4 _⟩
          · rw [ByteArray.size_append, k2, strOfNums_size]; show _ + 1 = _; omega
          · rw [be8_take _ _ hi, ← List.append_assoc, ← k3, ← byte_of n i HN.out.1]
            rw [ByteArray.data_append, Array.toList_append, strOfNums_data]; rfl
      · obtain rfl : gk = 0 := by omega
        rw [show (((0 : Nat) : Int) - 1) = -1 by decide]
        have hcz := hk.out.2.1
        have hcl := hk.out.2.2
        rw [List.take_of_length_le (by simp [be8])] at hcl
        have HCL := Lib.hid (And.intro hcz hcl)
        clear hcz hcl
        obtain ⟨h1, h2, arr, h3, h4⟩ := hS.out
        have HQ := Lib.hid (And.intro h1 (And.intro h2 (And.intro h3 h4)))
        obtain ⟨⟨e0, e1, e2, e3, e4, e5, e6, e7⟩, _, _⟩ := hs_cells h1
        clear h1 h2 h3 h4 hS hk hps
        go_wp2_with fail
        obtain ⟨G, hG⟩ : ∃ G, wr.heap.size = G := ⟨_, rfl⟩
        generalize hE : World.alloc wr _ = w2
        have HG : Hid (w2.heap[G]? = some (.cells (stA s) 52 (0, 0)) ∧ Turn Nope w w2 ∧ w2.heap[w.heap.size]? = some (.cells arr 24 (0, 0)) ∧ w.heap.size < G) := by
          rw [← hE, ← hG]; exact ⟨blk_new _ _, HQ.out.2.1.alloc _, blk_alloc HQ.out.2.2.2 _, blk_lt HQ.out.2.2.2⟩
        have HAR := Lib.hid HQ.out.2.2.1
        have HC64 : Hid (c.size = 64 * (c.size / 64) ∧ c.size / 64 ≤ 2) := by
          have h1 := HCL.out.1; have h2 := HPB.out.2; have h3 := HRE.out; have h4 := HN.out.2.1
          constructor <;> omega
        rw [hG]
        clear e0 e1 e2 e3 e4 e5 e6 e7 HQ hE hG
        go_loopg [3] (c.size / 64) (fun k v3 wr2 => ∃ (c' : ByteArray) (t : St), v3 = .string c' ∧ Hid (c'.size = 64 * k ∧ k ≤ 2 ∧ WSt t ∧ feed k t c'.data.toList = feed (c.size / 64) s c.data.toList) ∧ Hid (wr2.heap[G]? = some (.cells (stA t) 52 (0, 0)) ∧ Turn Nope w wr2 ∧ wr2.heap[w.heap.size]? = some (.cells arr 24 (0, 0)) ∧ w.heap.size < G))
        case atStart => exact ⟨c, s, rfl, ⟨HC64.out.1, HC64.out.2, hs, rfl⟩, HG.out⟩
        case round =>
          obtain ⟨d, t, rfl, hk2, hS⟩ := hrel
          clear HG
          by_cases hlt2 : 1 ≤ gk
          · have hd := hk2.out.1
            have b1 : decide ((0 : Int) < (d.size : Int)) = true := by simp; omega
            have b1n : decide (0 < d.size) = true := by simp; omega
            have hd64 : 64 ≤ d.size := by omega
            clear hd
            obtain ⟨e0, e1, e2, e3, e4, e5, e6, e7⟩ := stA_cells hS.out.1
            go_wp2_with fail
            refine (mix_any t hk2.out.2.2.1 d hd64 (by have := hk2.out; omega) _).mono ?_
            rintro e w3 ⟨rfl, ht⟩
            obtain ⟨M, hM⟩ : ∃ M, mixP t d.data.toList = M := ⟨_, rfl⟩
            have HMW : Hid (WSt M) := by rw [← hM]; exact mixP_w _ _
            have HMM := Lib.hid hM
            rw [hM]
            have H2 := Lib.hid (And.intro (ht.blk hS.out.1 fun h => h) (And.intro (hS.out.2.1.trans ht) (ht.blk hS.out.2.2.1 fun h => h)))
            clear e0 e1 e2 e3 e4 e5 e6 e7 ht hM
            have HE : Hid ((store8 w3 G M).heap[G]? = some (.cells (stA M) 52 (0, 0)) ∧ Turn Nope w (store8 w3 G M) ∧ (store8 w3 G M).heap[w.heap.size]? = some (.cells arr 24 (0, 0)) ∧ w.heap.size < G) :=
              ⟨store8_blk H2.out.1 M, store8_turn H2.out.2.1 (.inr (by have := hS.out.2.2.2; omega)) M, store8_far H2.out.2.2 (by have := hS.out.2.2.2; omega) M, hS.out.2.2.2⟩
            obtain ⟨e0, e1, e2, e3, e4, e5, e6, e7⟩ := stA_cells H2.out.1
            obtain ⟨f0, f1, f2, f3, f4, f5, f6, f7⟩ := st_frozen H2.out.1
            unfold stV stA
            go_wp2_with fail
            clear e0 e1 e2 e3 e4 e5 e6 e7 f0 f1 f2 f3 f4 f5 f6 f7 H2
            have hcs : (d.extract 64 d.size).size = d.size - 64 := by rw [ByteArray.size_extract]; omega
            go_roundg (gk - 1)
            case measure => omega
            case rel =>
              obtain ⟨k1, k2, k3, k4⟩ := hk2.out
              refine ⟨d.extract 64 d.size, M, rfl, ⟨by rw [hcs]; omega, by omega, HMW.out, ?_⟩, HE.out⟩
              rw [← k4, drop_bytes, ← HMM.out]
              obtain ⟨q, rfl⟩ : ∃ q, gk = q + 1 := ⟨gk - 1, by omega⟩
              rfl
          · have hd : d.size = 0 := by have := hk2.out.1; omega
            have b1 : decide ((0 : Int) < (d.size : Int)) = false := by rw [hd]; rfl
            have b1n : decide (0 < d.size) = false := by rw [hd]; rfl
            have hF : t = (feed (c.size / 64) s c.data.toList).1 := by
              rw [← hk2.out.2.2.2, show gk = 0 by omega]; rfl
            have HF := Lib.hid hF
            have hal := fun o => stA_cells (blk_alloc hS.out.1 o)
            have e0 := fun o => (hal o).1
            have e1 := fun o => (hal o).2.1
            have e2 := fun o => (hal o).2.2.1
            have e3 := fun o => (hal o).2.2.2.1
            have e4 := fun o => (hal o).2.2.2.2.1
            have e5 := fun o => (hal o).2.2.2.2.2.1
            have e6 := fun o => (hal o).2.2.2.2.2.2.1
            have e7 := fun o => (hal o).2.2.2.2.2.2.2
            clear hF hal
            go_wp2_with fail
            obtain ⟨K, hK⟩ : ∃ K, wr.heap.size = K := ⟨_, rfl⟩
            generalize hE1 : World.alloc wr _ = w5
            generalize hE2 : World.alloc w5 _ = w6
            have HS6 : Hid (w6.heap[K]? = some (.cells (fillA (stBytes t) 0) 24 (0, 0)) ∧ w6.heap[K + 1]? = some (.cells (stA t) 39 (0, 0)) ∧ Turn Nope w w6 ∧ w6.heap[w.heap.size]? = some (.cells arr 24 (0, 0)) ∧ w.heap.size < K) := by
              have h1 : w5.heap[K]? = some (.cells (fillA (stBytes t) 0) 24 (0, 0)) := by rw [← hE1, ← hK]; exact blk_new _ _
              have hs5 : w5.heap.size = K + 1 := by rw [← hE1, ← hK]; simp
              have h2 : Turn Nope w w5 := by rw [← hE1]; exact hS.out.2.1.alloc _
              have h3 : w5.heap[w.heap.size]? = some (.cells arr 24 (0, 0)) := by rw [← hE1]; exact blk_alloc hS.out.2.2.1 _
              rw [← hE2]
              exact ⟨blk_alloc h1 _, by rw [← hs5]; exact blk_new _ _, h2.alloc _, blk_alloc h3 _, by rw [← hK]; exact blk_lt hS.out.2.2.1⟩
            have hs5 : w5.heap.size = K + 1 := by rw [← hE1, ← hK]; simp
            try rw [hs5]
            try simp only [hK]
            clear e0 e1 e2 e3 e4 e5 e6 e7 hE1 hE2 hs5 hS hK
            go_loopg [72] 8 (fun k v72 wx => ∃ (i : Nat), v72 = .int .i64 (i : Int) ∧ Hid (k + i = 8) ∧ Hid (wx.heap[K]? = some (.cells (fillA (stBytes t) (4 * i)) 24 (0, 0)) ∧ wx.heap[K + 1]? = some (.cells (stA t) 39 (0, 0)) ∧ Turn Nope w wx ∧ wx.heap[w.heap.size]? = some (.cells arr 24 (0, 0)) ∧ w.heap.size < K))
            case atStart => exact ⟨0, rfl, rfl, HS6.out⟩
            case round =>
              obtain ⟨i, rfl, hk3, hS⟩ := hrel
              clear HS6
              by_cases hlt3 : i < 8
              · have b1 : decide ((i : Int) < 8) = true := by simp; omega
                have b1n : decide (i < 8) = true := by simp; omega
                have j0 : (0 : Int) ≤ (i : Int) := by omega
                have j1 : (i : Int) < 8 := by omega
                have HWI : Hid (wrap64 ((i : Int) + 1) = (i : Int) + 1) := IntWalk.wrap64_in _ ⟨by omega, by omega⟩
                have cw := st_word hS.out.2.1 hlt3
                obtain ⟨X, hX⟩ : ∃ X, (stL t).getD i 0 = X := ⟨_, rfl⟩
                rw [hX] at cw
                have HX := Lib.hid hX
                clear hX
                go_wp2_with fail
                go_loopg [77] 4 (fun k v77 wy => ∃ (j : Nat), v77 = .int .i64 (j : Int) ∧ Hid (k + j = 4) ∧ Hid (wy.heap[K]? = some (.cells (fillA (stBytes t) (4 * i + j)) 24 (0, 0)) ∧ wy.heap[K + 1]? = some (.cells (stA t) 39 (0, 0)) ∧ Turn Nope w wy ∧ wy.heap[w.heap.size]? = some (.cells arr 24 (0, 0)) ∧ w.heap.size < K))
                case atStart => exact ⟨0, rfl, rfl, hS.out⟩
                case round =>
                  obtain ⟨j, rfl, hk4, hS4⟩ := hrel
                  clear hS cw
                  by_cases hlt4 : j < 4
                  · have b1 : decide ((j : Int) < 4) = true := by simp; omega
                    have b1n : decide (j < 4) = true := by simp; omega
                    have HWJ : Hid (wrap64 ((j : Int) + 1) = (j : Int) + 1) := IntWalk.wrap64_in _ ⟨by omega, by omega⟩
                    have hw1 : wrap64 (4 * (i : Int)) = 4 * (i : Int) := IntWalk.wrap64_in _ ⟨by omega, by omega⟩
                    have hw2 : wrap64 (4 * (i : Int) + (j : Int)) = 4 * (i : Int) + (j : Int) := IntWalk.wrap64_in _ ⟨by omega, by omega⟩
                    have hw3 : wrap64 (8 * (j : Int)) = 8 * (j : Int) := IntWalk.wrap64_in _ ⟨by omega, by omega⟩
                    have q2 : 4 * i + j < 32 := by omega
                    have cq : wr.cell? ⟨K, 4 * i + j, none⟩ = some (.int .u8 (if 4 * i + j < 4 * i + j then (stBytes t).getD (4 * i + j) 0 else 0)) := by
                      rw [blk_cell hS4.out.1]
                      unfold fillA
                      simp [q2]
                    have fq := blk_frozen hS4.out.1 (4 * i + j)
                    go_wp2_with fail
                    go_roundg (4 - (j + 1))
                    case measure => have := hk4.out; omega
                    case rel =>
                      obtain ⟨h1, h2, h3, h4, h5⟩ := hS4.out
                      refine ⟨j + 1, by go_num, by have := hk4.out; show _ = _; omega, ?_, blk_far h2 (p := ⟨K, 4 * i + j, none⟩) (by simp) _, h3.set_new (by omega) _, blk_far h4 (p := ⟨K, 4 * i + j, none⟩) (by show w.heap.size ≠ K; omega) _, h5⟩
                      have := blk_set h1 (4 * i + j) (.int .u8 ((stBytes t).getD (4 * i + j) 0))
                      rw [fill_set _ _ q2, st_byte t i j hlt3 hlt4, HX.out] at this
                      exact this
                  · obtain rfl : j = 4 := by have := hk4.out; omega
                    have b1 : decide (((4 : Nat) : Int) < 4) = false := by decide
                    clear hlt4
                    go_wp2_with fail
                    go_roundg (8 - (i + 1))
                    case measure => have := hk3.out; omega
                    case rel => exact ⟨i + 1, by go_num, by have := hk3.out; show _ = _; omega, hS4.out⟩
              · obtain rfl : i = 8 := by have := hk3.out; omega
                have b1 : decide (((8 : Nat) : Int) < 8) = false := by decide
                clear hlt3
                obtain ⟨O, hO⟩ : ∃ O, outA t = O := ⟨_, rfl⟩
                have HO := Lib.hid hO
                have h1 := hS.out.1
                rw [fill_out, hO] at h1
                have hos : O.size = 32 := by rw [← hO]; exact outA_size t
                have hoo : ∀ v ∈ O.toList, v.oneCell' = true := by rw [← hO]; exact outA_one t
                clear hO
                have H1 := Lib.hid h1
                have H2 := Lib.hid hS.out.2.2
                have HPD : Hid ((feed ((padL b n).length / 64) s (padL b n)).1 = t) := by
                  have h1 : padL b n = c.data.toList := by
                    rw [HCL.out.2, HPB.out.1, ← HRE.out]; rfl
                  have h2 : (padL b n).length = c.size := by rw [h1]; simp
                  show _ = _
                  rw [h2, h1, HF.out]
                have HAR2 := HAR.out
                clear h1 hS HF HCL HPB HRE HAR hk3
                have HOO := Lib.hid hoo
                clear hoo
                go_wp2_with (first | (refine wpList_loadSum rfl _ rfl K O rfl H1.out hos ?_) | (refine wpList_storeSum rfl _ _ rfl w.heap.size arr O rfl rfl H2.out.2.1 HAR2 hos HOO.out ?_))
                have hb0 := setRow_heap wr w.heap.size arr O 24 (0, 0) H2.out.2.1
                refine bodyPost_ret_by (results_c rfl _ _ w.heap.size 24 O (0, 0) _ rfl hb0 Try.underlying24 rfl (by rw [hos]; exact Try.infoSum)) rfl ⟨?_, ?_⟩
                · rw [HPD.out, HO.out]
                · exact H2.out.1.setRow (.inr (Nat.le_refl _)) O
end Go.Proofs.Ytojfknogdknhkaa
