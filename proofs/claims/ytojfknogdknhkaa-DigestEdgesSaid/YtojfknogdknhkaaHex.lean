/- A sum as digits: Hex. -/
import Derived.Test.YtojfknogdknhkaaHs
import Derived.Test.YtojfknogdknhkaaShelf2
set_option maxRecDepth 16000
set_option linter.unusedVariables false
set_option linter.unusedSimpArgs false
namespace Go.Proofs.Ytojfknogdknhkaa
open Go.RowKit
variable {w w' : World}
def digs : ByteArray := ⟨#[48, 49, 50, 51, 52, 53, 54, 55, 56, 57, 97, 98, 99, 100, 101, 102]⟩
def dg (k : Nat) : UInt8 := digs.data.toList.getD k 0
def hexL (l : List Int) : List UInt8 := l.flatMap fun c => [dg (c / 16).toNat, dg (c % 16).toNat]
theorem digs_cut (k : Nat) (hk : k < 16) : (digs.extract k digs.size).extract 0 1 = ⟨#[dg k]⟩ := by
  have h : k = 0 ∨ k = 1 ∨ k = 2 ∨ k = 3 ∨ k = 4 ∨ k = 5 ∨ k = 6 ∨ k = 7 ∨ k = 8 ∨ k = 9 ∨ k = 10 ∨ k = 11 ∨ k = 12 ∨ k = 13 ∨ k = 14 ∨ k = 15 := by omega
  rcases h with rfl | rfl | rfl | rfl | rfl | rfl | rfl | rfl | rfl | rfl | rfl | rfl | rfl | rfl | rfl | rfl <;> rfl
theorem digs_size : digs.size = 16 := rfl
theorem hexL_len (l : List Int) : (hexL l).length = 2 * l.length := by
  induction l with
  | nil => rfl
  | cons c l ih => unfold hexL at *; rw [List.flatMap_cons, List.length_append, ih]; show 2 + 2 * l.length = 2 * (l.length + 1); omega
theorem and15 (q : Nat) (hq : q < 256) : bits .and .u8 (q : Int) 15 = ((q % 16 : Nat) : Int) := by
  rw [show (15 : Int) = ((15 : Nat) : Int) from rfl, u8_and_nat q 15 hq (by decide), show (15 : Nat) = 2 ^ 4 - 1 from rfl, Nat.and_two_pow_sub_one_eq_mod]
theorem Turn.belowB {S : Nat → Prop} {a w w' : World} {B : Nat} (h : Turn S a w) (hB : a.heap.size ≤ B) (hb : Below B w w') : Turn S a w' :=
  ⟨hb.os.trans h.os, hb.tape.trans h.tape, hb.output.trans h.output, Nat.le_trans h.size hb.size, fun i hi hn => (hb.block i (by omega)).trans (h.block i hi hn)⟩
set_option maxHeartbeats 4000000 in
theorem hex_any (O : Array Value) (l : List Int) (hO : O.toList = l.map (Value.int .u8)) (hl : l.length = 32) (hb : ∀ x ∈ l, 0 ≤ x ∧ x < 256) (w : World) :
    Calls Try.prog 11 #[.agg O] w fun e w' => e = .returned (.string ⟨(hexL l).toArray⟩) ∧ Turn Nope w w' := by
  have hos : O.size = 32 := by rw [← Array.length_toList, hO, List.length_map, hl]
  have hoo : ∀ v ∈ O.toList, v.oneCell' = true := by rw [hO]; intro v hv; obtain ⟨x, _, rfl⟩ := List.mem_map.1 hv; rfl
  have HL := Lib.hid (And.intro hO (And.intro hl hb))
  clear hO hl hb hoo
  go_enter Try.func11, Try.ntmps11
  have hbx := blk_new w (.cells O 24)
  have hbx2 := blk_alloc hbx (.cells #[.pointer none, .slice none 0 0] 44)
  go_wp2_with (refine wpList_loadSum rfl _ rfl w.heap.size O rfl hbx2 hos ?_)
  obtain ⟨B, hB⟩ : ∃ B, w.heap.size + 1 = B := ⟨_, rfl⟩
  have hf := Lib.fresh_isBuilder 44 5 (w.alloc (.cells O 24))
  rw [show (w.alloc (.cells O 24)).heap.size = w.heap.size + 1 by simp, hB] at hf
  have HF := Lib.hid hf
  have HT0 : Hid (Turn Nope w ((w.alloc (.cells O 24)).alloc (.cells #[.pointer none, .slice none 0 0] 44)) ∧ B ≤ ((w.alloc (.cells O 24)).alloc (.cells #[.pointer none, .slice none 0 0] 44)).heap.size) := ⟨((Turn.refl _ _).alloc _).alloc _, by rw [← hB]; simp⟩
  have HB := Lib.hid hB
  rw [hB]
  clear hbx hbx2 hf hB
  generalize (w.alloc (.cells O 24)).alloc (.cells #[.pointer none, .slice none 0 0] 44) = w0 at HF HT0 ⊢
  go_loopg [7] 32 (fun m v7 wr => ∃ j : Nat, v7 = .int .i64 (j : Int) ∧ Hid (m + j = 32) ∧ Hid (Lib.IsBuilder 44 5 B B (Lib.byteCells (hexL (l.take j))) wr ∧ Turn Nope w wr ∧ B ≤ wr.heap.size))
  case atStart => exact ⟨0, rfl, rfl, HF.out, HT0.out⟩
  case round =>
    obtain ⟨j, rfl, hj, hS⟩ := hrel
    clear HF HT0
    by_cases hlt : j < 32
    · have c1 : decide ((j : Int) < 32) = true := by simp; omega
      have c1n : decide (j < 32) = true := by simp; omega
      have j0 : (0 : Int) ≤ (j : Int) := by omega
      have j1 : (j : Int) < 32 := by omega
      have HWJ : Hid (wrap64 ((j : Int) + 1) = (j : Int) + 1) := IntWalk.wrap64_in _ ⟨by omega, by omega⟩
      have hjo : j < O.size := by omega
      obtain ⟨c, hc⟩ : ∃ c, l[j]? = some c := ⟨_, List.getElem?_eq_getElem (show j < l.length by rw [HL.out.2.1]; exact hlt)⟩
      have hoc : O[j]? = some (.int .u8 c) := by rw [← Array.getElem?_toList, HL.out.1, List.getElem?_map, hc]; rfl
      have hoc2 : O[j] = .int .u8 c := by have := Array.getElem?_eq_getElem hjo; rw [hoc] at this; injection this with h; exact h.symm
      have hcb := HL.out.2.2 c (List.mem_of_getElem? hc)
      have HC := Lib.hid hc
      clear hc
      have hix := run_indexSum wr O j c hlt hoc
      clear hoc hoc2
      obtain ⟨q, rfl⟩ : ∃ q : Nat, c = (q : Int) := ⟨c.toNat, by omega⟩
      have q0 : (0 : Int) ≤ (q : Int) / 16 := by omega
      have q1 : (q : Int) / 16 ≤ 16 := by omega
      have q2 : q / 16 ≤ 16 := by omega
      have q3 : q / 16 < 16 := by omega
      go_wp2_with fail
      rw [show ((ByteArray.mk #[48, 49, 50, 51, 52, 53, 54, 55, 56, 57, 97, 98, 99, 100, 101, 102]).extract (q / 16) 16).extract 0 1 = ⟨#[dg (q / 16)]⟩ from digs_cut _ q3]
      have hlen : (Lib.byteCells (hexL (l.take j))).length ≤ 64 := by
        rw [Lib.byteCells_length, hexL_len, List.length_take]; omega
      refine (Try.Builder_WriteString B B _ ⟨#[dg (q / 16)]⟩ _ hS.out.1 (by show _ + 1 ≤ _; omega) hS.out.2.2).mono ?_
      rintro e w2 ⟨rfl, hb2, ht2⟩
      have H2 : Hid (Lib.BuilderAt 44 5 B B (.pointer (some ⟨B, 0, none⟩)) (Lib.byteCells (hexL (l.take j)) ++ Lib.strCells ⟨#[dg (q / 16)]⟩) w2 ∧ Turn Nope w w2 ∧ B ≤ w2.heap.size) := ⟨hb2, hS.out.2.1.belowB (by have := HB.out; omega) ht2, Nat.le_trans hS.out.2.2 ht2.size⟩
      clear hb2 ht2 hS hix q0 q1 q2
      have hand : bits .and .u8 (q : Int) 15 = ((q % 16 : Nat) : Int) := and15 q (by omega)
      have r0 : (0 : Int) ≤ ((q % 16 : Nat) : Int) := by omega
      have r1 : ((q % 16 : Nat) : Int) ≤ 16 := by omega
      have r2 : q % 16 ≤ 16 := by omega
      have r3 : q % 16 < 16 := by omega
      go_wp2_with fail
      rw [show ((ByteArray.mk #[48, 49, 50, 51, 52, 53, 54, 55, 56, 57, 97, 98, 99, 100, 101, 102]).extract (q % 16) 16).extract 0 1 = ⟨#[dg (q % 16)]⟩ from digs_cut _ r3]
      have hlen2 : (Lib.byteCells (hexL (l.take j)) ++ Lib.strCells ⟨#[dg (q / 16)]⟩).length ≤ 65 := by
        rw [List.length_append, Lib.strCells_length]; show _ + 1 ≤ _; omega
      refine (Try.Builder_WriteString B B _ ⟨#[dg (q % 16)]⟩ _ (Or.inr H2.out.1) (by show _ + 1 ≤ _; omega) H2.out.2.2).mono ?_
      rintro e w3 ⟨rfl, hb2, ht2⟩
      have H3 : Hid (Lib.BuilderAt 44 5 B B (.pointer (some ⟨B, 0, none⟩)) ((Lib.byteCells (hexL (l.take j)) ++ Lib.strCells ⟨#[dg (q / 16)]⟩) ++ Lib.strCells ⟨#[dg (q % 16)]⟩) w3 ∧ Turn Nope w w3 ∧ B ≤ w3.heap.size) := ⟨hb2, H2.out.2.1.belowB (by have := HB.out; omega) ht2, Nat.le_trans H2.out.2.2 ht2.size⟩
      clear hb2 ht2 H2 hand r0 r1 r2 hlen hlen2
      go_wp2_with fail
      go_roundg (32 - (j + 1))
      case measure => have := hj.out; omega
      case rel =>
        refine ⟨j + 1, by go_num, by have := hj.out; show _ = _; omega, Or.inr ?_, H3.out.2⟩
        have h1 := H3.out.1
        rw [List.append_assoc] at h1
        have h2 : l.take (j + 1) = l.take j ++ [(q : Int)] := by rw [List.take_add_one, HC.out]; rfl
        rw [h2]
        unfold hexL at *
        rw [List.flatMap_append]
        unfold Lib.byteCells at *
        rw [List.map_append]
        exact h1
    · obtain rfl : j = 32 := by have := hj.out; omega
      have c1 : decide (((32 : Nat) : Int) < 32) = false := by decide
      clear hlt
      rw [List.take_of_length_le (by rw [HL.out.2.1]; exact Nat.le_refl _)] at hS
      go_wp2_with fail
      refine (Try.Builder_String B B (hexL l) _ hS.out.1 (fun h => by
        have h1 := hexL_len l
        rw [h, HL.out.2.1] at h1
        cases h1)).mono ?_
      rintro e w2 ⟨rfl, hb2⟩
      have HT : Hid (Turn Nope w w2) := hS.out.2.1.belowB (by have := HB.out; omega) hb2
      clear hb2 hS
      go_wp2_with fail
      go_ret
      exact ⟨rfl, HT.out⟩
end Go.Proofs.Ytojfknogdknhkaa
