import Derived.Test.YtpcfgigmchndjaaBoth
import Derived.Test.YtpcfgigmchndjaaArgs
import Derived.Test.YtpcfgigmchndjaaSwap
import Derived.Deep.RegionHeld3
import Derived.Deep.RegionLaw
import Derived.Deep.RegionWith
namespace Go.Proofs.Ytpcfgigmchndjaa
open PCellsPlays Go.RowKit Go.Maps
/-- It goes on, with frame A, in a world of which R holds. -/
def AtN (A : Act) (R : World → Prop) : Exit → Act → World → Prop
  | .normal, a, w => a = A ∧ R w
  | _, _, _ => False
theorem AtN.use {A : Act} {R : World → Prop} {Q : Exit → Act → World → Prop} (h : ∀ w, R w → Q .normal A w) : ∀ e a w, AtN A R e a w → Q e a w := by
  intro e a w h1
  cases e <;> first | exact False.elim h1 | (obtain ⟨rfl, h2⟩ := h1; exact h w h2)
open Go.Proofs.YtpcfgigmchndjaaW.PrintWords in
theorem plays_start {w w1 w2 : World} {n g : Nat} (ht : Turn Nope w w1) (hm : MemIs w2 w1.heap.size (fun k => w1.heap.size ≤ k ∧ k < w2.heap.size) g (List.replicate n ⟨#[]⟩) []) (ht2 : Turn Nope w1 w2) :
    ∃ G, MemL w G n g (.slice (some ⟨w2.heap.size, 0, none⟩) 0 0) [] [] (w2.alloc (.cells #[] 56)) := by
  obtain ⟨bc, bm, vl, h⟩ := hm
  have hm2 : MemIs w2 w.heap.size (fun k => w1.heap.size ≤ k ∧ k < w2.heap.size) g (List.replicate n ⟨#[]⟩) [] := by
    refine ⟨bc, bm, vl, ⟨h.hd, h.cells, h.cnt, ⟨h.row.1, ?_⟩, h.fg, h.fc, h.fm, h.fv, h.lt, fun k hk => Nat.le_trans ht.size (h.lo k hk)⟩⟩
    rcases h.row.2 with h1 | ⟨g', cap, cur, h1, h2, h3⟩
    · exact .inl h1
    · exact .inr ⟨g', cap, cur, h1, Nat.le_trans ht.size h2, h3⟩
  have hle : w.heap.size ≤ w2.heap.size := Nat.le_trans ht.size ht2.size
  refine ⟨fun k => w.heap.size ≤ k, ⟨⟨_, fun k => k = w2.heap.size, _, hm2.nope ((Turn.refl _ _).alloc _), Good.start n, ⟨fun k hk => ?_, OwnRow.lit w2 w.heap.size (inner := []) (Reps.none _ _) hle (by simp)⟩, fun k hk hF => ?_, fun k hk => ?_, fun k hk => ?_⟩, (ht.trans ht2).alloc _, fun k hk => hk⟩⟩
  · have : w2.heap.size = k := by simpa [Value.ownBlock] using hk
    exact this.symm
  · have := hF.2
    have hk' : k = w2.heap.size := hk
    omega
  · rcases hk with hk | hk
    · exact Nat.le_trans ht.size hk.1
    · have hk' : k = w2.heap.size := hk
      show _ ≤ _
      omega
  · have hk' : k = w2.heap.size := hk
    subst hk'
    exact ⟨hle, by simp⟩
attribute [local go_sem] lib_max2 lib_min2 lib_max_two lib_min_two
set_option maxRecDepth 8000 in
set_option maxHeartbeats 4000000 in
theorem plays_walk (n0 : Int) (a : Option Addr) (len cap : Nat) (w : World) (hin : ActsIn w a len) :
    Calls Try.prog 7 #[.int .i64 n0, .slice a len cap] w fun e w' => e = .returned (.bool true) ∧ Below w.heap.size w w' := by
  have HIN := Lib.hid hin
  clear hin
  obtain ⟨n, hn9, hmax⟩ : ∃ n : Nat, n ≤ 8 ∧ (if 8 < (if n0 < 0 then 0 else n0) then 8 else (if n0 < 0 then 0 else n0)) = (n : Int) := by
    refine ⟨(if 8 < (if n0 < 0 then 0 else n0) then 8 else (if n0 < 0 then 0 else n0)).toNat, ?_, ?_⟩ <;> (repeat' split) <;> omega
  obtain ⟨n1, hmax1⟩ : ∃ n1, (if n0 < 0 then 0 else n0) = n1 := ⟨_, rfl⟩
  rw [hmax1] at hmax
  go_enter Try.func7, Try.ntmps7
  go_wp2_with fail
  refine (awake_any _).mono ?_
  rintro e w1 ⟨rfl, ht⟩
  have HT1 := Lib.hid ht
  clear ht
  go_wp2_with fail
  refine (new_any n (by omega) _).mono ?_
  rintro e w2 ⟨g, rfl, hm, ht⟩
  have HT2 := Lib.hid ht
  have HM2 := Lib.hid hm
  clear hm ht
  go_wp2_with fail
  have HX2 : Hid (∃ G, MemL w G n g (.slice (some ⟨w2.heap.size, 0, none⟩) 0 0) [] [] (w2.alloc (.cells #[] 56))) := plays_start HT1.out HM2.out HT2.out
  clear HM2 HT1 HT2
  go_loopg [6, 7] 60 (fun k v6 v7 wr => ∃ (i : Nat) (log : List Dn), v7 = .int .i64 (i : Int) ∧ Hid (k + i = 60 ∧ i ≤ len ∧ log.length ≤ i) ∧ ∃ G, MemL w G n g v6 log log wr)
  case atStart => exact ⟨0, [], rfl, ⟨rfl, Nat.zero_le _, Nat.le_refl _⟩, HX2.out⟩
  case round =>
    obtain ⟨i, log, rfl, hi, G, hm⟩ := hrel
    have HM3 := Lib.hid hm
    clear hm HX2
    have hll : log.length ≤ 100 := by have := hi.out.1; have := hi.out.2.2; omega
    have HL := Lib.hid hll
    clear hll
    by_cases hlt : i < len ∧ i < 60
    · have b1 : decide ((i : Int) < (len : Int)) = true := by simp; omega
      have b1n : decide (i < len) = true := by simp; omega
      have b2 : decide ((i : Int) < (60 : Int)) = true := by simp; omega
      have b2n : decide (i < 60) = true := by simp; omega
      have hi1 := hlt.1
      have hi2 := hlt.2
      have hw : wrap64 ((i : Int) + 1) = (i : Int) + 1 := IntWalk.wrap64_in _ ⟨by omega, by omega⟩
      have hw' : IntKind.i64.wrap ((i : Int) + 1) = (i : Int) + 1 := IntWalk.i64_in _ ⟨by omega, by omega⟩
      obtain ⟨ad, who, k, c, o0, nw0, rfl, hwho, hk, hc, ho, hn, c0, c1, c2, c3, c4⟩ := HIN.out.2 i hi1
      have CELL : Hid (∀ W, Turn Nope w W → W.cell? (ad.add (i * 5)) = some (.int .i64 who)) := fun W R => cell_later R.nopeBelow c0
      have hb := HM3.out.turn.nopeBelow
      have c1 := cell_later hb c1
      have c2 := cell_later hb c2
      have c3 := cell_later hb c3
      have c4 := cell_later hb c4
      have c0 := cell_later hb c0
      clear hlt hb
      have HWHO := Lib.hid hwho
      clear hwho hk hc
      go_wp2_with fail
      clear c0 c1 c2 c3 c4
      have HMB := Lib.hid (HM3.out.withBlk (.cells #[.int .i64 k, .int .i64 c, .string o0, .string nw0] 31))
      clear HM3
      generalize wr.alloc (.cells #[.int .i64 k, .int .i64 c, .string o0, .string nw0] 31) = wa at *
      generalize wr.heap.size = ab at *
      have SAT : Hid (∀ W x y, MemB w n g u6 log log ab (.cells #[.int .i64 k, .int .i64 c, .string x, .string y] 31) W → W.cell? ⟨ab, 2, none⟩ = some (.string x) ∧ W.frozen? ⟨ab, 2, none⟩ = false ∧ W.cell? ⟨ab, 3, none⟩ = some (.string y) ∧ W.frozen? ⟨ab, 3, none⟩ = false) := fun W x y R =>
        ⟨by rw [blk_cell R.blk]; rfl, blk_frozen R.blk 2, by rw [blk_cell R.blk]; rfl, blk_frozen R.blk 3⟩
      apply Code.wp_mono (Q := AtN _ (fun w' => MemB w n g u6 log log ab (.cells #[.int .i64 k, .int .i64 c, .string (cut8 o0), .string (cut8 nw0)] 31) w'))
      rotate_left
      · skip
        obtain ⟨p0, p1, p2, p3⟩ := SAT.out wa.drew _ _ (HMB.out.nope (Turn.refl _ _).drew)
        go_region_with (first | (go_at_call 14; refine (cut_any _ _).mono ?_; rintro e w5 ⟨rfl, ht⟩; have HM5 := Lib.hid (HMB.out.nope (((Turn.refl _ _).drew).trans ht)); clear ht; obtain ⟨q0, q1, q2, q3⟩ := SAT.out _ _ _ HM5.out) | (go_at_call 14; refine (cut_any _ _).mono ?_; rintro e w6 ⟨rfl, ht⟩; have HM6 := Lib.hid (HM5.out.nope ht); clear ht; obtain ⟨r0, r1, r2, r3⟩ := SAT.out _ _ _ HM6.out))
        all_goals (refine ⟨rfl, ?_⟩)
        all_goals first | exact (HM6.out.set 2 (.string (cut8 o0))).set 3 (.string (cut8 nw0)) | exact (HM6.out.set 3 (.string (cut8 nw0))).set 2 (.string (cut8 o0))
      · skip
        refine AtN.use ?_
        intro w3 hm
        have HM4 := Lib.hid hm
        clear hm HMB SAT
        generalize cut8 o0 = o1 at *
        generalize cut8 nw0 = nw1 at *
        have CB : Hid (∀ W v ml ll, MemB w n g v ml ll ab (.cells #[.int .i64 k, .int .i64 c, .string o1, .string nw1] 31) W → W.cell? (ad.add (i * 5)) = some (.int .i64 who) ∧ W.cell? ⟨ab, 0, none⟩ = some (.int .i64 k) ∧ W.cell? ⟨ab, 1, none⟩ = some (.int .i64 c) ∧ W.cell? ⟨ab, 2, none⟩ = some (.string o1) ∧ W.cell? ⟨ab, 3, none⟩ = some (.string nw1)) := fun W v ml ll R =>
          ⟨CELL.out _ R.turn, by rw [blk_cell R.blk]; rfl, by rw [blk_cell R.blk]; rfl, by rw [blk_cell R.blk]; rfl, by rw [blk_cell R.blk]; rfl⟩
        have HL1 : Hid (log.length ≤ 1000) := Nat.le_trans HL.out (by decide)
        have HDL := Lib.hid (accD_length n log who k c o1 nw1)
        go_wp2_with fail
        go_region_held3 (fun W => W.cell? (ad.add (i * 5)) = some (.int .i64 who) ∧ W.cell? ⟨ab, 0, none⟩ = some (.int .i64 k) ∧ W.cell? ⟨ab, 1, none⟩ = some (.int .i64 c) ∧ W.cell? ⟨ab, 2, none⟩ = some (.string o1) ∧ W.cell? ⟨ab, 3, none⟩ = some (.string nw1)) (first | exact CB.out _ _ _ _ HM4.out | exact CB.out _ _ _ _ (HM4.out.nope (Turn.refl _ _).drew) | exact CB.out _ _ _ _ HM5.out)
          (first | (go_at_call 10; refine (memb_do _ (HM4.out.nope (Turn.refl _ _).drew) HL1.out who k c HWHO.out o1 nw1).mono ?_; rintro e w' ⟨rfl, hm⟩; have HM5 := Lib.hid hm; clear hm))
        go_wp2_with fail
        go_region_held3 (fun W => W.cell? (ad.add (i * 5)) = some (.int .i64 who) ∧ W.cell? ⟨ab, 0, none⟩ = some (.int .i64 k) ∧ W.cell? ⟨ab, 1, none⟩ = some (.int .i64 c) ∧ W.cell? ⟨ab, 2, none⟩ = some (.string o1) ∧ W.cell? ⟨ab, 3, none⟩ = some (.string nw1)) (first | exact CB.out _ _ _ _ HM5.out | exact CB.out _ _ _ _ (HM5.out.nope (Turn.refl _ _).drew) | exact CB.out _ _ _ _ HM6.out)
          (first | (go_at_call 17; refine (memb_ref _ (HM5.out.nope (Turn.refl _ _).drew) HL1.out who k c o1 nw1).mono ?_; rintro e w' ⟨vl', rfl, hm⟩; have HM6 := Lib.hid hm; clear hm))
        obtain ⟨G6, hm⟩ := HM6.out.out
        have HM7 := Lib.hid hm
        clear hm HM6 HM5 HM4 CB
        generalize accD n log who k c o1 nw1 = D at *
        obtain ⟨log2, s, is, er⟩ := D
        dsimp only at HDL HM7 ⊢
        have HL2 : Hid (log2.length ≤ 1000) := Nat.le_trans HDL.out (Nat.succ_le_succ (Nat.le_trans HL.out (by decide)))
        obtain ⟨A2, cp2, rfl⟩ := HM7.out.vlen
        have q1 : (s.toList != s.toList) = false := by simp
        have q2 : (is != is) = false := by simp
        have q3 : (er != er) = false := by simp
        have q4 : (cntOf log2 who != cntOf log2 who) = false := by simp
        have q5 : ((log2.length : Int) != (log2.length : Int)) = false := by simp
        have i1 : (0 : Int) ≤ (i : Int) := by omega
        have i2 : (i : Int) < (len : Int) := by omega
        go_wp2_with fail
        go_region_held3 (fun W => W.cell? (ad.add (i * 5)) = some (.int .i64 who)) (first | exact CELL.out _ HM7.out.turn | exact CELL.out _ (HM7.out.turn.trans (Turn.refl _ _).drew) | exact CELL.out _ HM8.out.turn | exact CELL.out _ HM9.out.turn | exact CELL.out _ HM10.out.turn)
          (first | (go_at_call 11; refine (meml_count _ (HM7.out.nope (Turn.refl _ _).drew) who HWHO.out).mono ?_; rintro e w' ⟨rfl, hm⟩; have HM8 := Lib.hid hm; clear hm) | (go_at_call 18; refine (meml_rcount _ HM8.out HL2.out who).mono ?_; rintro e w' ⟨rfl, hm⟩; have HM9 := Lib.hid hm; clear hm) | (go_at_call 12; refine (meml_all _ HM9.out).mono ?_; rintro e w' ⟨rfl, hm⟩; have HM10 := Lib.hid hm; clear hm))
        go_wp2_with fail
        go_loopg [16] (n + 2) (fun kk v16 wr => ∃ (z : Int), v16 = .int .i64 z ∧ Hid ((kk : Int) + z = n + 1 ∧ -1 ≤ z) ∧ MemL w G6 n g (.slice A2 log2.length cp2) log2 log2 wr)
        case atStart => exact ⟨-1, rfl, ⟨by omega, by omega⟩, HM10.out⟩
        case round =>
          obtain ⟨z, rfl, hz, hm⟩ := hrel
          have HMZ := Lib.hid hm
          clear hm HM7
          have hz1 := hz.out.1
          have hz2 := hz.out.2
          have hwz : wrap64 (z + 1) = z + 1 := IntWalk.wrap64_in _ ⟨by omega, by omega⟩
          have hwz' : IntKind.i64.wrap (z + 1) = z + 1 := IntWalk.i64_in _ ⟨by omega, by omega⟩
          by_cases hzn : z ≤ n
          · have d1 : decide (z ≤ (n : Int)) = true := by simpa using hzn
            have r1 : ((refHolds log2 z).toList != (refHolds log2 z).toList) = false := by simp
            have r2 : (refSwaps log2 z != refSwaps log2 z) = false := by simp
            go_wp2_with fail
            refine (meml_look _ HMZ.out z).mono ?_
            rintro e w5 ⟨rfl, hm⟩
            have HMA := Lib.hid hm
            clear hm HMZ
            go_wp2_with fail
            refine (meml_rholds _ HMA.out HL2.out z).mono ?_
            rintro e w6 ⟨rfl, hm⟩
            have HMB := Lib.hid hm
            clear hm HMA
            go_wp2_with fail
            refine (meml_swaps _ HMB.out HL2.out z).mono ?_
            rintro e w7 ⟨rfl, hm⟩
            have HMC := Lib.hid hm
            clear hm HMB
            go_wp2_with fail
            refine (meml_rswaps _ HMC.out HL2.out z).mono ?_
            rintro e w8 ⟨rfl, hm⟩
            have HMD := Lib.hid hm
            clear hm HMC
            go_wp2_with fail
            go_roundg ((n : Int) - z).toNat
            case measure => omega
            case rel => exact ⟨z + 1, by go_num, ⟨by omega, by omega⟩, HMD.out⟩
          · have d1 : decide (z ≤ (n : Int)) = false := by simpa using hzn
            go_wp2_with fail
            go_roundg (59 - i)
            case measure => have := hi.out.1; omega
            case rel => exact ⟨i + 1, log2, by go_num, ⟨by omega, by omega, by have := hi.out.2.2; have := HDL.out; omega⟩, G6, HMZ.out⟩
    · by_cases h1 : i < len
      · have h30 : i = 60 := by have := hi.out.1; omega
        subst h30
        have b1 : decide ((60 : Int) < (len : Int)) = true := by simp; omega
        have b1n : decide (60 < len) = true := by simp; omega
        clear hlt
        go_wp2_with fail
        go_ret
        exact ⟨rfl, HM3.out.turn.nopeBelow⟩
      · have b1 : decide ((i : Int) < (len : Int)) = false := by simp; omega
        have b1n : decide (i < len) = false := by simp; omega
        clear hlt
        go_wp2_with fail
        go_ret
        exact ⟨rfl, HM3.out.turn.nopeBelow⟩
end Go.Proofs.Ytpcfgigmchndjaa
