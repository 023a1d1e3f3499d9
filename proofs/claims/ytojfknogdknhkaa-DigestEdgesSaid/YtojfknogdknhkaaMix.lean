/- A block mixed in: the walks of round, begin, mix. -/
import Derived.Test.YtojfknogdknhkaaWords
import Derived.BigQuiet
set_option maxRecDepth 16000
set_option linter.unusedVariables false
set_option linter.unusedSimpArgs false
namespace Go.Proofs.Ytojfknogdknhkaa
open Go.RowKit
variable {w w' : World}
def stA (s : St) : Array Value := #[.int .u32 s.a, .int .u32 s.b, .int .u32 s.c, .int .u32 s.d, .int .u32 s.e, .int .u32 s.f, .int .u32 s.g, .int .u32 s.h]
def stV (s : St) : Value := .agg (stA s)
def zeroSt : St := ⟨0, 0, 0, 0, 0, 0, 0, 0⟩
def beginSt : St := ⟨0x6a09e667, 0xbb67ae85, 0x3c6ef372, 0xa54ff53a, 0x510e527f, 0x9b05688c, 0x1f83d9ab, 0x5be0cd19⟩
theorem beginSt_w : WSt beginSt := by constructor <;> (unfold W32 beginSt; decide)
theorem own_lower {w : World} {b b' e size n : Nat} {v : Value} {xs : List Value} (h : w.ownsRow b' e size v n xs) (hb : b ≤ b') : w.ownsRow b e size v n xs := by
  refine ⟨h.1, h.2.imp id ?_⟩
  rintro ⟨g, cap, cur, h1, h2, h3⟩
  exact ⟨g, cap, cur, h1, Nat.le_trans hb h2, h3⟩
set_option maxHeartbeats 4000000 in
theorem round_any (w : World) : Calls Try.prog 27 #[] w fun e w' => ∃ v, e = .returned v ∧ w'.ownsRow w.heap.size 39 1 v 64 (u32s keysP) ∧ Turn Nope w w' := by
  go_enter Try.func27, Try.ntmps27
  go_wp2_with fail
  go_ret
  exact ⟨_, rfl, ⟨rfl, .inr ⟨w.heap.size, 64, (u32s keysP).toArray, rfl, Nat.le_refl _, blk_new _ _, by decide, by decide, by decide, rfl⟩⟩, (Turn.refl _ _).alloc _⟩
def store8 (V : World) (g : Nat) (s : St) : World :=
  (((((((V.setCell ⟨g, 0, none⟩ (.int .u32 s.a)).setCell ⟨g, 1, none⟩ (.int .u32 s.b)).setCell ⟨g, 2, none⟩ (.int .u32 s.c)).setCell ⟨g, 3, none⟩ (.int .u32 s.d)).setCell ⟨g, 4, none⟩ (.int .u32 s.e)).setCell ⟨g, 5, none⟩ (.int .u32 s.f)).setCell ⟨g, 6, none⟩ (.int .u32 s.g)).setCell ⟨g, 7, none⟩ (.int .u32 s.h)
theorem store8_blk {V : World} {g : Nat} {x : St} {t : TypeId} (h : V.heap[g]? = some (.cells (stA x) t (0, 0))) (s : St) : (store8 V g s).heap[g]? = some (.cells (stA s) t (0, 0)) := by
  have := blk_set (blk_set (blk_set (blk_set (blk_set (blk_set (blk_set (blk_set h 0 (.int .u32 s.a)) 1 (.int .u32 s.b)) 2 (.int .u32 s.c)) 3 (.int .u32 s.d)) 4 (.int .u32 s.e)) 5 (.int .u32 s.f)) 6 (.int .u32 s.g)) 7 (.int .u32 s.h)
  simpa [store8, stA] using this
theorem store8_far {V : World} {k g : Nat} {x : Obj} (h : V.heap[k]? = some x) (hk : k ≠ g) (s : St) : (store8 V g s).heap[k]? = some x := by
  unfold store8
  exact blk_far (blk_far (blk_far (blk_far (blk_far (blk_far (blk_far (blk_far h (p := ⟨g, 0, none⟩) hk _) (p := ⟨g, 1, none⟩) hk _) (p := ⟨g, 2, none⟩) hk _) (p := ⟨g, 3, none⟩) hk _) (p := ⟨g, 4, none⟩) hk _) (p := ⟨g, 5, none⟩) hk _) (p := ⟨g, 6, none⟩) hk _) (p := ⟨g, 7, none⟩) hk _
theorem store8_turn {S : Nat → Prop} {a V : World} {g : Nat} (h : Turn S a V) (hg : S g ∨ a.heap.size ≤ g) (s : St) : Turn S a (store8 V g s) := by
  unfold store8
  exact (((((((h.setCell (p := ⟨g, 0, none⟩) hg _).setCell (p := ⟨g, 1, none⟩) hg _).setCell (p := ⟨g, 2, none⟩) hg _).setCell (p := ⟨g, 3, none⟩) hg _).setCell (p := ⟨g, 4, none⟩) hg _).setCell (p := ⟨g, 5, none⟩) hg _).setCell (p := ⟨g, 6, none⟩) hg _).setCell (p := ⟨g, 7, none⟩) hg _
theorem stA_cells {V : World} {g : Nat} {t : TypeId} {s : St} (h : V.heap[g]? = some (.cells (stA s) t (0, 0))) :
    V.cell? ⟨g, 0, none⟩ = some (.int .u32 s.a) ∧ V.cell? ⟨g, 1, none⟩ = some (.int .u32 s.b) ∧ V.cell? ⟨g, 2, none⟩ = some (.int .u32 s.c) ∧ V.cell? ⟨g, 3, none⟩ = some (.int .u32 s.d) ∧ V.cell? ⟨g, 4, none⟩ = some (.int .u32 s.e) ∧ V.cell? ⟨g, 5, none⟩ = some (.int .u32 s.f) ∧ V.cell? ⟨g, 6, none⟩ = some (.int .u32 s.g) ∧ V.cell? ⟨g, 7, none⟩ = some (.int .u32 s.h) :=
  ⟨by rw [blk_cell h]; rfl, by rw [blk_cell h]; rfl, by rw [blk_cell h]; rfl, by rw [blk_cell h]; rfl, by rw [blk_cell h]; rfl, by rw [blk_cell h]; rfl, by rw [blk_cell h]; rfl, by rw [blk_cell h]; rfl⟩
theorem st_frozen {V : World} {g : Nat} {t : TypeId} {s : St} (h : V.heap[g]? = some (.cells (stA s) t (0, 0))) :
    V.frozen? ⟨g, 0, none⟩ = false ∧ V.frozen? ⟨g, 1, none⟩ = false ∧ V.frozen? ⟨g, 2, none⟩ = false ∧ V.frozen? ⟨g, 3, none⟩ = false ∧ V.frozen? ⟨g, 4, none⟩ = false ∧ V.frozen? ⟨g, 5, none⟩ = false ∧ V.frozen? ⟨g, 6, none⟩ = false ∧ V.frozen? ⟨g, 7, none⟩ = false :=
  ⟨blk_frozen h _, blk_frozen h _, blk_frozen h _, blk_frozen h _, blk_frozen h _, blk_frozen h _, blk_frozen h _, blk_frozen h _⟩
set_option maxHeartbeats 4000000 in
theorem begin_any (w : World) : Calls Try.prog 19 #[] w fun e w' => e = .returned (stV beginSt) ∧ Turn Nope w w' := by
  go_enter Try.func19, Try.ntmps19
  go_wp2_with fail
  have hB : (w.alloc (.cells (stA beginSt) 52)).heap[w.heap.size]? = some (.cells (stA beginSt) 52 (0, 0)) := blk_new w _
  have hT : Turn Nope w (w.alloc (.cells (stA beginSt) 52)) := (Turn.refl _ _).alloc _
  refine (?_ : bodyPost _ _ _ _ _ (w.alloc (.cells (stA beginSt) 52)))
  generalize w.alloc (.cells (stA beginSt) 52) = wE at *
  obtain ⟨e0, e1, e2, e3, e4, e5, e6, e7⟩ := stA_cells hB
  exact bodyPost_ret (v := stV beginSt) (by simp [results, Try.results19, go_sem, e0, e1, e2, e3, e4, e5, e6, e7, stV, stA]) rfl ⟨rfl, hT⟩
structure MixW (w V : World) (H : Nat) (s t : St) (vk vw : Value) (ws : List Int) : Prop where
  box : V.heap[H]? = some (.cells (stA s) 52 (0, 0))
  res : V.heap[H + 1]? = some (.cells (stA zeroSt) 52 (0, 0))
  cur : V.heap[H + 1 + 1]? = some (.cells (stA t) 52 (0, 0))
  rk : V.ownsRow (H + 3) 39 1 vk 64 (u32s keysP)
  rws : V.ownsRow (H + 3) 39 1 vw 64 (u32s ws)
  turn : Turn Nope w V
  hz : w.heap.size = H
theorem MixW.nope {V V' : World} {H : Nat} {s t : St} {vk vw : Value} {ws : List Int} (h : MixW w V H s t vk vw ws) (ht : Turn Nope V V') : MixW w V' H s t vk vw ws :=
  ⟨ht.blk h.box fun h => h, ht.blk h.res fun h => h, ht.blk h.cur fun h => h, own_nope h.rk ht, own_nope h.rws ht, h.turn.trans ht, h.hz⟩
theorem MixW.set {V : World} {H : Nat} {s t : St} {vk vw : Value} {ws : List Int} (h : MixW w V H s t vk vw ws) (t' : St) : MixW w (store8 V (H + 1 + 1) t') H s t' vk vw ws := by
  have hT : Turn (At (H + 1 + 1)) V (store8 V (H + 1 + 1) t') := store8_turn (Turn.refl _ _) (.inl (show At (H + 1 + 1) (H + 1 + 1) from rfl)) t'
  refine ⟨store8_far h.box (by omega) _, store8_far h.res (by omega) _, store8_blk h.cur _, own_turn h.rk hT fun k hk he => ?_, own_turn h.rws hT fun k hk he => ?_, store8_turn h.turn (.inr (by rw [h.hz]; omega)) _, h.hz⟩
  · have h1 := own_base h.rk k hk
    have : k = H + 1 + 1 := he
    omega
  · have h1 := own_base h.rws k hk
    have : k = H + 1 + 1 := he
    omega
end Go.Proofs.Ytojfknogdknhkaa
