/- A hash: New, Add. -/
import Derived.Test.YtojfknogdknhkaaMixw
import Derived.Test.YtojfknogdknhkaaShelf
set_option maxRecDepth 16000
set_option linter.unusedVariables false
set_option linter.unusedSimpArgs false
namespace Go.Proofs.Ytojfknogdknhkaa
open Go.RowKit
variable {w w' : World}
/-- Whole blocks are mixed in. -/
def feed : Nat → St → List UInt8 → St × List UInt8
  | 0, s, l => (s, l)
  | k + 1, s, l => feed k (mixP s l) (l.drop 64)
def hsA (s : St) (b : ByteArray) (n : Int) : Array Value := #[.int .u32 s.a, .int .u32 s.b, .int .u32 s.c, .int .u32 s.d, .int .u32 s.e, .int .u32 s.f, .int .u32 s.g, .int .u32 s.h, .string b, .int .i64 n]
set_option maxHeartbeats 4000000 in
theorem clone_str (b : ByteArray) (hb : b.size ≤ 281474976710656) (w : World) : Calls Try.prog 21 #[.string b] w fun e w' => e = .returned (.string b) ∧ Turn Nope w w' := by
  go_enter Try.func21, Try.ntmps21
  go_wp2_with fail
  refine (Try.stringslite_Clone b _ hb).mono ?_
  rintro e w1 ⟨rfl, hb1⟩
  have HB := Lib.hid hb1
  clear hb1
  go_wp2_with fail
  go_ret
  exact ⟨rfl, Turn.toNope HB.out⟩
set_option maxHeartbeats 4000000 in
theorem new_any (w : World) : Calls Try.prog 12 #[] w fun e w' => ∃ p, e = .returned (.pointer (some ⟨p, 0, none⟩)) ∧ w.heap.size ≤ p ∧ w'.heap[p]? = some (.cells (hsA beginSt ⟨#[]⟩ 0) 55 (0, 0)) ∧ Turn Nope w w' := by
  obtain ⟨B, hB⟩ : ∃ B, beginSt = B := ⟨_, rfl⟩
  rw [hB]
  go_enter Try.func12, Try.ntmps12
  go_wp2_with fail
  refine (begin_any _).mono ?_
  rintro e w1 ⟨rfl, ht⟩
  have HT := Lib.hid ht
  clear ht
  rw [hB]
  unfold stV stA
  go_wp2_with fail
  go_ret
  exact ⟨_, rfl, HT.out.size, blk_new _ _, HT.out.alloc _⟩
theorem hs_cells {V : World} {g : Nat} {t : TypeId} {s : St} {b : ByteArray} {n : Int} (h : V.heap[g]? = some (.cells (hsA s b n) t (0, 0))) :
    (V.cell? ⟨g, 0, none⟩ = some (.int .u32 s.a) ∧ V.cell? ⟨g, 1, none⟩ = some (.int .u32 s.b) ∧ V.cell? ⟨g, 2, none⟩ = some (.int .u32 s.c) ∧ V.cell? ⟨g, 3, none⟩ = some (.int .u32 s.d) ∧ V.cell? ⟨g, 4, none⟩ = some (.int .u32 s.e) ∧ V.cell? ⟨g, 5, none⟩ = some (.int .u32 s.f) ∧ V.cell? ⟨g, 6, none⟩ = some (.int .u32 s.g) ∧ V.cell? ⟨g, 7, none⟩ = some (.int .u32 s.h)) ∧ V.cell? ⟨g, 8, none⟩ = some (.string b) ∧ V.cell? ⟨g, 9, none⟩ = some (.int .i64 n) :=
  ⟨⟨by rw [blk_cell h]; rfl, by rw [blk_cell h]; rfl, by rw [blk_cell h]; rfl, by rw [blk_cell h]; rfl, by rw [blk_cell h]; rfl, by rw [blk_cell h]; rfl, by rw [blk_cell h]; rfl, by rw [blk_cell h]; rfl⟩, by rw [blk_cell h]; rfl, by rw [blk_cell h]; rfl⟩
theorem hs_store8 {V : World} {g : Nat} {t : TypeId} {s : St} {b : ByteArray} {n : Int} (h : V.heap[g]? = some (.cells (hsA s b n) t (0, 0))) (s' : St) : (store8 V g s').heap[g]? = some (.cells (hsA s' b n) t (0, 0)) := by
  have := blk_set (blk_set (blk_set (blk_set (blk_set (blk_set (blk_set (blk_set h 0 (.int .u32 s'.a)) 1 (.int .u32 s'.b)) 2 (.int .u32 s'.c)) 3 (.int .u32 s'.d)) 4 (.int .u32 s'.e)) 5 (.int .u32 s'.f)) 6 (.int .u32 s'.g)) 7 (.int .u32 s'.h)
  simpa [store8, hsA] using this
theorem drop_bytes (c : ByteArray) : (c.extract 64 c.size).data.toList = c.data.toList.drop 64 := by
  rw [ByteArray.data_extract, Array.toList_extract, List.extract_eq_take_drop]
  exact List.take_of_length_le (by simp)
set_option maxHeartbeats 8000000 in
theorem add_any (p : Nat) (s : St) (hs : WSt s) (b : ByteArray) (n : Nat) (hn : n + b.size + 64 ≤ 1152921504606846976) (x : ByteArray) (hx : x.size ≤ 1048576) (hbs : b.size < 64) (w : World) (h : w.heap[p]? = some (.cells (hsA s b n) 55 (0, 0))) :
    Calls Try.prog 13 #[.pointer (some ⟨p, 0, none⟩), .string x] w fun e w' => ∃ b', e = .returned (.tuple #[]) ∧
      w'.heap[p]? = some (.cells (hsA (feed ((b ++ x).size / 64) s (b ++ x).data.toList).1 b' ((n + x.size : Nat) : Int)) 55 (0, 0)) ∧ b'.data.toList = (feed ((b ++ x).size / 64) s (b ++ x).data.toList).2 ∧ b'.size < 64 ∧ Turn (At p) w w' := by
  obtain ⟨c0, c8, c9⟩ := hs_cells h
  have hfr := fun i => blk_frozen h i
  have f9 := hfr 9
  have hw : wrap64 ((n : Int) + (x.size : Int)) = (n : Int) + (x.size : Int) := IntWalk.wrap64_in _ ⟨by omega, by omega⟩
  have hsum : ¬ 9223372036854775807 < b.size + x.size := by omega
  have H := Lib.hid h
  have HN := Lib.hid (And.intro hn (And.intro hx hbs))
  clear h hn hx hbs hfr c0
  go_enter Try.func13, Try.ntmps13
  go_wp2_with fail
  have HN1 : Hid ((w.setCell ⟨p, 9, none⟩ (.int .i64 ((n : Int) + (x.size : Int)))).heap[p]? = some (.cells (hsA s b ((n + x.size : Nat) : Int)) 55 (0, 0)) ∧ Turn (At p) w (w.setCell ⟨p, 9, none⟩ (.int .i64 ((n : Int) + (x.size : Int))))) := by
    refine ⟨?_, (Turn.refl _ _).set_at _⟩
    rw [show (n : Int) + (x.size : Int) = ((n + x.size : Nat) : Int) by omega]
    exact blk_set H.out 9 (.int .i64 ((n + x.size : Nat) : Int))
  clear c8 c9 f9 hw H hsum
  generalize w.setCell ⟨p, 9, none⟩ (.int .i64 ((n : Int) + (x.size : Int))) = w0 at HN1 ⊢
  obtain ⟨N, hN⟩ : ∃ N, ((n + x.size : Nat) : Int) = N := ⟨_, rfl⟩
  rw [hN] at HN1
  have HNN := Lib.hid hN
  obtain ⟨X, hX⟩ : ∃ X, b ++ x = X := ⟨_, rfl⟩
  have HXS : Hid (X.size ≤ 1048640) := by rw [← hX, ByteArray.size_append]; have := HN.out; show _ ≤ _; omega
  have HXX := Lib.hid hX
  rw [hX]
  clear hX hN
  go_loopg [1] (X.size / 64) (fun k v1 wr => ∃ (c : ByteArray) (t : St), v1 = .string c ∧ Hid (c.size / 64 = k ∧ c.size ≤ 1048640 ∧ WSt t ∧ feed k t c.data.toList = feed (X.size / 64) s X.data.toList) ∧ Hid (wr.heap[p]? = some (.cells (hsA t b N) 55 (0, 0)) ∧ Turn (At p) w wr))
  case atStart => exact ⟨X, s, rfl, ⟨rfl, HXS.out, hs, rfl⟩, HN1.out⟩
  case round =>
    obtain ⟨c, t, rfl, hk, hS⟩ := hrel
    clear HN1
    by_cases hlt : 64 ≤ c.size
    · have b1 : decide ((64 : Int) ≤ (c.size : Int)) = true := by simp; omega
      have b1n : decide (64 ≤ c.size) = true := by simp; omega
      obtain ⟨⟨e0, e1, e2, e3, e4, e5, e6, e7⟩, _, _⟩ := hs_cells hS.out.1
      go_wp2_with fail
      refine (mix_any t hk.out.2.2.1 c hlt (by have := hk.out.2.1; omega) _).mono ?_
      rintro e w2 ⟨rfl, ht⟩
      obtain ⟨M, hM⟩ : ∃ M, mixP t c.data.toList = M := ⟨_, rfl⟩
      have HMW : Hid (WSt M) := by rw [← hM]; exact mixP_w _ _
      rw [hM]
      have H2 := Lib.hid (And.intro (ht.blk hS.out.1 fun h => h) (hS.out.2.trans ht.ofNope))
      clear e0 e1 e2 e3 e4 e5 e6 e7 ht
      have HE := Lib.hid (And.intro (hs_store8 H2.out.1 M) (store8_turn H2.out.2 (.inl (show At p p from rfl)) M))
      obtain ⟨⟨e0, e1, e2, e3, e4, e5, e6, e7⟩, _, _⟩ := hs_cells H2.out.1
      have hfr := fun i => blk_frozen H2.out.1 i
      have f0 := hfr 0
      have f1 := hfr 1
      have f2 := hfr 2
      have f3 := hfr 3
      have f4 := hfr 4
      have f5 := hfr 5
      have f6 := hfr 6
      have f7 := hfr 7
      clear hfr
      unfold stV stA
      go_wp2_with fail
      clear e0 e1 e2 e3 e4 e5 e6 e7 f0 f1 f2 f3 f4 f5 f6 f7 H2
      have hcs : (c.extract 64 c.size).size = c.size - 64 := by rw [ByteArray.size_extract]; omega
      go_roundg ((c.extract 64 c.size).size / 64)
      case measure => rw [hcs]; have := hk.out.1; omega
      case rel =>
        refine ⟨c.extract 64 c.size, M, rfl, ⟨rfl, by rw [hcs]; have := hk.out.2.1; omega, HMW.out, ?_⟩, HE.out⟩
        rw [← hk.out.2.2.2, ← hk.out.1, hcs, show c.size / 64 = (c.size - 64) / 64 + 1 by omega]
        rw [show feed ((c.size - 64) / 64 + 1) t c.data.toList = feed ((c.size - 64) / 64) (mixP t c.data.toList) (c.data.toList.drop 64) from rfl, hM, drop_bytes]
    · have b1 : decide ((64 : Int) ≤ (c.size : Int)) = false := by simp; omega
      have b1n : decide (64 ≤ c.size) = false := by simp; omega
      have hF : feed (X.size / 64) s X.data.toList = (t, c.data.toList) := by
        rw [← hk.out.2.2.2, ← hk.out.1, show c.size / 64 = 0 by omega]; rfl
      have HFX := Lib.hid hF
      clear hF
      go_wp2_with fail
      refine (clone_str c (by omega) _).mono ?_
      rintro e w2 ⟨rfl, ht⟩
      have H2 := Lib.hid (And.intro (ht.blk hS.out.1 fun h => h) (hS.out.2.trans ht.ofNope))
      clear ht
      have e8 := (hs_cells H2.out.1).2.1
      have f8 := blk_frozen H2.out.1 8
      go_wp2_with fail
      go_end0
      rw [HXX.out]
      refine ⟨c, rfl, ?_, by rw [HFX.out], by omega, H2.out.2.set_at _⟩
      rw [HFX.out, HNN.out]
      exact blk_set H2.out.1 8 (.string c)
end Go.Proofs.Ytojfknogdknhkaa
