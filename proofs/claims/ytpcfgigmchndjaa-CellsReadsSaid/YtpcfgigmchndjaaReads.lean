import Derived.Test.YtpcfgigmchndjaaSwap
import Derived.Deep.RegionHeld3
namespace Go.Proofs.Ytpcfgigmchndjaa
open Go.RowKit Go.Maps
theorem list_ne_true' {a b : ByteArray} (h : a ≠ b) : (a.toList != b.toList) = true := by
  have := list_ne h
  simp [bne, this]
/-- A Memory and, beside it, one block of the law's own. -/
structure MemX (w0 : World) (g : Nat) (cs : List ByteArray) (log : List Dn) (hb : Nat) (o : Obj) (w : World) : Prop where
  mem : ∃ F, MemIs w w0.heap.size F g cs log ∧ ¬ F hb
  blk : w.heap[hb]? = some o
  turn : Turn Nope w0 w
  lo : w0.heap.size ≤ hb
variable {w0 w w' : World} {g hb : Nat} {cs : List ByteArray} {log : List Dn} {o : Obj}
theorem MemX.nope (h : MemX w0 g cs log hb o w) (ht : Turn Nope w w') : MemX w0 g cs log hb o w' := by
  obtain ⟨F, h1, h2⟩ := h.mem
  exact ⟨⟨F, h1.nope ht, h2⟩, ht.blk h.blk id, h.turn.trans ht, h.lo⟩
theorem MemX.of_do {cs' : List ByteArray} {log' : List Dn} {F : Nat → Prop} (h : MemX w0 g cs log hb o w) (hm : MemIs w w0.heap.size F g cs log) (hF : ¬ F hb) (k : (∃ F' : Nat → Prop, MemIs w' w0.heap.size F' g cs' log' ∧ ∀ k, F' k → F k ∨ w.heap.size ≤ k) ∧ Turn F w w') : MemX w0 g cs' log' hb o w' := by
  obtain ⟨⟨F', h1, h3⟩, h2⟩ := k
  refine ⟨⟨F', h1, fun e => ?_⟩, h2.blk h.blk hF, h.turn.then h2 (fun k hk => .inr (hm.lo k hk)), h.lo⟩
  have := blk_lt h.blk
  rcases h3 _ e with h4 | h4
  · exact hF h4
  · omega
theorem MemX.set {xs : Array Value} {t : TypeId} (h : MemX w0 g cs log hb (.cells xs t (0, 0)) w) (i : Nat) (v : Value) : MemX w0 g cs log hb (.cells (xs.setIfInBounds i v) t (0, 0)) (w.setCell ⟨hb, i, none⟩ v) := by
  obtain ⟨F, h1, h2⟩ := h.mem
  refine ⟨⟨F, h1.turn (S := At hb) ((Turn.refl _ _).set_at _) (fun k hk hF => h2 (by rw [show hb = k from hk.symm]; exact hF)), h2⟩, blk_set h.blk i v, h.turn.set_new h.lo _, h.lo⟩
theorem memx_read (w : World) (hm : MemX w0 g cs log hb o w) (hl : log.length ≤ 1000) (who : Int) (hw : (Lit.int .i64 who).wf = true) (j : Nat) (s : ByteArray) (hj : cs[j]? = some s) (old nw : ByteArray) :
    Calls Try.prog 10 #[.pointer (some ⟨g, 0, none⟩), .int .i64 who, accV 1 (j : Int) old nw] w fun e w' => e = .returned (.tuple #[.string s, .bool true, .int .i64 0]) ∧ MemX w0 g cs (log ++ [⟨who, 1, j, old, nw, true⟩]) hb o w' := by
  obtain ⟨F, h1, h2⟩ := hm.mem
  refine (do_read w h1 hl who hw j s hj old nw).mono ?_
  rintro e w' ⟨rfl, h⟩
  exact ⟨rfl, hm.of_do h1 h2 h⟩
theorem memx_write (w : World) (hm : MemX w0 g cs log hb o w) (hl : log.length ≤ 1000) (who : Int) (hw : (Lit.int .i64 who).wf = true) (j : Nat) (s : ByteArray) (hj : cs[j]? = some s) (old nw : ByteArray) :
    Calls Try.prog 10 #[.pointer (some ⟨g, 0, none⟩), .int .i64 who, accV 2 (j : Int) old nw] w fun e w' => e = .returned (.tuple #[.string s, .bool true, .int .i64 0]) ∧ MemX w0 g (cs.set j nw) (log ++ [⟨who, 2, j, old, nw, true⟩]) hb o w' := by
  obtain ⟨F, h1, h2⟩ := hm.mem
  refine (do_write w h1 hl who hw j s hj old nw).mono ?_
  rintro e w' ⟨rfl, h⟩
  exact ⟨rfl, hm.of_do h1 h2 h⟩
theorem memx_look (w : World) (hm : MemX w0 g cs log hb o w) (j : Nat) (s : ByteArray) (hj : cs[j]? = some s) : Calls Try.prog 15 #[.pointer (some ⟨g, 0, none⟩), .int .i64 (j : Int)] w fun e w' => e = .returned (.string s) ∧ MemX w0 g cs log hb o w' := by
  obtain ⟨F, h, _⟩ := hm.mem
  refine (look_in w h j s hj).mono ?_
  rintro e w' ⟨rfl, h⟩
  exact ⟨rfl, hm.nope h⟩
theorem memx_swaps (w : World) (hm : MemX w0 g cs log hb o w) (hl : log.length ≤ 1000) (cell : Int) : Calls Try.prog 16 #[.pointer (some ⟨g, 0, none⟩), .int .i64 cell] w fun e w' => e = .returned (.int .i64 (swFold cell log).1) ∧ MemX w0 g cs log hb o w' := by
  obtain ⟨F, h, _⟩ := hm.mem
  refine (swaps_any w h hl cell).mono ?_
  rintro e w' ⟨rfl, h⟩
  exact ⟨rfl, hm.nope h⟩
theorem MemX.of_mem {F : Nat → Prop} (hm : MemIs w w0.heap.size F g cs log) (ht : Turn Nope w0 w) (o : Obj) : MemX w0 g cs log w.heap.size o (w.alloc o) :=
  ⟨⟨F, hm.nope ((Turn.refl _ _).alloc _), fun h => Nat.lt_irrefl _ (hm.lt _ h)⟩, blk_new _ _, ht.alloc _, ht.size⟩
def noSwaps (log : List Dn) : Prop := ∀ d ∈ log, d.k = 1 ∨ d.k = 2
theorem swFold_none (cell : Int) (log : List Dn) (h : noSwaps log) : (swFold cell log).1 = 0 := by
  have : ∀ (l : List Dn) (z : Int × ByteArray), noSwaps l → (l.foldl (swStep cell) z).1 = z.1 := by
    intro l
    induction l with
    | nil => intro z _; rfl
    | cons d l ih =>
      intro z h
      rw [List.foldl_cons, ih _ (fun x hx => h x (List.mem_cons_of_mem _ hx))]
      unfold swStep
      rcases h d (List.mem_cons_self) with hk | hk
      · simp [hk]
      · simp [hk]; split <;> rfl
  exact this log _ h
def heldObj (cs : List ByteArray) : Obj := .cells (cs.map Value.string).toArray 39 (0, 0)
set_option maxRecDepth 8000 in
set_option maxHeartbeats 4000000 in
theorem reads_walk (a : Option Addr) (len cap : Nat) (aw : Option Addr) (lenw capw : Nat) (w : World) (hin : StrsIn w a len) (hinw : IntsIn w aw lenw) :
    Calls Try.prog 5 #[.slice a len cap, .slice aw lenw capw] w fun e w' => e = .returned (.bool true) ∧ Below w.heap.size w w' := by
  have HIN := Lib.hid hin
  have HINW := Lib.hid hinw
  clear hin hinw
  go_enter Try.func5, Try.ntmps5
  go_wp2_with fail
  refine (awake_any _).mono ?_
  rintro e w1 ⟨rfl, ht⟩
  have HT1 := Lib.hid ht
  clear ht
  go_wp2_with fail
  refine (mem_new 4 (by omega) w _ HT1.out).mono ?_
  rintro e w2 ⟨g, rfl, hm⟩
  have HM2 := Lib.hid hm
  clear hm
  go_wp2_with fail
  have HX2 : Hid (MemX w g (List.replicate 4 ⟨#[]⟩) [] w2.heap.size (heldObj (List.replicate 4 ⟨#[]⟩)) (w2.alloc (heldObj (List.replicate 4 ⟨#[]⟩)))) := by
    obtain ⟨⟨F, h1⟩, h2⟩ := HM2.out
    exact MemX.of_mem h1 h2 _
  generalize w2.heap.size = hb at *
  go_loopg [7] 30 (fun k v7 wr => ∃ (i : Nat) (cs : List ByteArray) (log : List Dn), v7 = .int .i64 (i : Int) ∧ Hid (k + i = 30 ∧ i ≤ len ∧ cs.length = 4 ∧ log.length = 2 * i ∧ noSwaps log) ∧ MemX w g cs log hb (heldObj cs) wr)
  case atStart => exact ⟨0, List.replicate 4 ⟨#[]⟩, [], rfl, ⟨rfl, Nat.zero_le _, rfl, rfl, fun d hd => by cases hd⟩, HX2.out⟩
  case round =>
    obtain ⟨i, cs, log, rfl, hi, hm⟩ := hrel
    have HM3 := Lib.hid hm
    clear hm HX2 HM2
    have hll : log.length ≤ 1000 := by have := hi.out.1; have := hi.out.2.2.2.1; omega
    have HL := Lib.hid hll
    clear hll
    have HZ : Hid (∀ c, (swFold c log).1 = 0) := fun c => swFold_none c log hi.out.2.2.2.2
    by_cases h1 : i < len
    · have b1 : decide ((i : Int) < (len : Int)) = true := by simp; omega
      have b1n : decide (i < len) = true := by simp; omega
      by_cases h2 : i < lenw
      · have b2 : decide ((i : Int) < (lenw : Int)) = true := by simp; omega
        have b2n : decide (i < lenw) = true := by simp; omega
        by_cases h3 : i < 30
        · have b3 : decide ((i : Int) < (30 : Int)) = true := by simp; omega
          have b3n : decide (i < 30) = true := by simp; omega
          have hw : wrap64 ((i : Int) + 1) = (i : Int) + 1 := IntWalk.wrap64_in _ ⟨by omega, by omega⟩
          obtain ⟨ad, S, rfl, hS, c0⟩ := (HIN.out.later HM3.out.turn.nopeBelow).2 i h1
          obtain ⟨adw, x, rfl, hx, c1⟩ := (HINW.out.later HM3.out.turn.nopeBelow).2 i h2
          obtain ⟨j, hj, hbits⟩ := and3 x
          obtain ⟨s, hs⟩ : ∃ s, cs[j]? = some s := ⟨cs[j]'(by have := hi.out.2.2.1; omega), by rw [List.getElem?_eq_getElem]⟩
          have HS := Lib.hid hs
          clear hs
          have SAT : Hid (∀ W l, MemX w g cs l hb (heldObj cs) W → MemX w g cs l hb (heldObj cs) W ∧ W.cell? ⟨hb, j, none⟩ = some (.string s)) := fun W l R => ⟨R, by rw [blk_cell (show W.heap[hb]? = some (.cells (cs.map Value.string).toArray 39 (0, 0)) from R.blk)]; simp [HS.out]⟩
          go_wp2_with fail
          refine (cut_any S _).mono ?_
          rintro e w4 ⟨rfl, ht⟩
          have HM4 := Lib.hid (HM3.out.nope ht)
          clear ht c0 c1 HM3
          generalize cut8 S = T at *
          go_wp2_with fail
          refine (memx_read _ HM4.out HL.out 1 (by decide) j s HS.out _ _).mono ?_
          rintro e w5 ⟨rfl, hm⟩
          have HM5 := Lib.hid hm
          clear hm HM4
          have q1 : (s.toList != s.toList) = false := by simp
          have i1 : (0 : Int) ≤ (j : Int) := by omega
          have i2 : (j : Int) < 4 := by omega
          go_wp2_with fail
          go_region_held3 (fun W => MemX w g cs (log ++ [⟨1, 1, (j : Int), ⟨#[120]⟩, ⟨#[121]⟩, true⟩]) hb (heldObj cs) W ∧ W.cell? ⟨hb, j, none⟩ = some (.string s)) (first | exact SAT.out _ _ HM5.out | exact SAT.out _ _ (HM5.out.nope (Turn.refl _ _).drew) | exact SAT.out _ _ HM6.out)
            (first | (go_at_call 15; refine (memx_look _ (HM5.out.nope (Turn.refl _ _).drew) j s HS.out).mono ?_; rintro e w' ⟨rfl, hm⟩; have HM6 := Lib.hid hm; clear hm))
          go_wp2_with fail
          refine (memx_write _ HM6.out (by have := hi.out.2.2.2.1; simp; omega) 1 (by decide) j s HS.out _ _).mono ?_
          rintro e w7 ⟨rfl, hm⟩
          have HM7 := Lib.hid hm
          clear hm HM5 HM6
          have hbk : Hid (w7.heap[hb]? = some (.cells (cs.map Value.string).toArray 39 (0, 0))) := HM7.out.blk
          have k0 := blk_cell hbk.out j
          have k1 := blk_frozen hbk.out j
          simp [HS.out] at k0
          go_wp2_with fail
          have HM8 := Lib.hid (HM7.out.set j (.string T))
          have he : (cs.map Value.string).toArray.setIfInBounds j (.string T) = ((cs.set j T).map Value.string).toArray := by simp [List.map_set]
          rw [he] at HM8
          go_roundg (29 - i)
          case measure => have := hi.out.1; omega
          case rel => exact ⟨i + 1, _, _, by go_num, ⟨by omega, by omega, by rw [List.length_set]; exact hi.out.2.2.1, by have := hi.out.2.2.2.1; simp; omega, by
            intro d hd
            simp only [List.mem_append, List.mem_singleton] at hd
            rcases hd with (hd | rfl) | rfl
            · exact hi.out.2.2.2.2 d hd
            · exact .inl rfl
            · exact .inr rfl⟩, HM8.out⟩
        · have b3 : decide ((i : Int) < (30 : Int)) = false := by simp; omega
          have b3n : decide (i < 30) = false := by simp; omega
          go_wp2_with fail
          go_loopg [82] 4 (fun k v82 wr => ∃ (j : Nat), v82 = .int .i64 (j : Int) ∧ Hid (k + j = 4) ∧ MemX w g cs log hb (heldObj cs) wr)
          case atStart => exact ⟨0, rfl, rfl, HM3.out⟩
          case round =>
            obtain ⟨j, rfl, hj, hm⟩ := hrel
            have HMJ := Lib.hid hm
            clear hm HM3
            have hj0 : _ = 4 := hj.out
            by_cases hj4 : j < 4
            · have d1 : decide ((j : Int) < 4) = true := by simp; omega
              have d1n : decide (j < 4) = true := by simp; omega
              have hwj : wrap64 ((j : Int) + 1) = (j : Int) + 1 := IntWalk.wrap64_in _ ⟨by omega, by omega⟩
              obtain ⟨s, hs⟩ : ∃ s, cs[j]? = some s := ⟨cs[j]'(by have := hi.out.2.2.1; omega), by rw [List.getElem?_eq_getElem]⟩
              have HS := Lib.hid hs
              clear hs
              have SAT : Hid (∀ W, MemX w g cs log hb (heldObj cs) W → MemX w g cs log hb (heldObj cs) W ∧ W.cell? ⟨hb, j, none⟩ = some (.string s)) := fun W R => ⟨R, by rw [blk_cell (show W.heap[hb]? = some (.cells (cs.map Value.string).toArray 39 (0, 0)) from R.blk)]; simp [HS.out]⟩
              have q1 : (s.toList != s.toList) = false := by simp
              have i1 : (0 : Int) ≤ (j : Int) := by omega
              have i2 : (j : Int) < 4 := by omega
              go_wp2_with fail
              go_region_held3 (fun W => MemX w g cs log hb (heldObj cs) W ∧ W.cell? ⟨hb, j, none⟩ = some (.string s)) (first | exact SAT.out _ HMJ.out | exact SAT.out _ (HMJ.out.nope (Turn.refl _ _).drew) | exact SAT.out _ HMK.out | exact SAT.out _ HML.out)
                (first | (go_at_call 15; refine (memx_look _ (HMJ.out.nope (Turn.refl _ _).drew) j s HS.out).mono ?_; rintro e w' ⟨rfl, hm⟩; have HMK := Lib.hid hm; clear hm) | (go_at_call 16; refine (memx_swaps _ HMK.out HL.out j).mono ?_; rintro e w'' ⟨rfl, hm⟩; rw [HZ.out]; have HML := Lib.hid hm; clear hm))
              go_wp2_with fail
              go_roundg (3 - j)
              case measure => omega
              case rel => exact ⟨j + 1, by go_num, (show 3 - j + (j + 1) = 4 by omega), HML.out⟩
            · have d1 : decide ((j : Int) < 4) = false := by simp; omega
              have d1n : decide (j < 4) = false := by simp; omega
              go_wp2_with fail
              go_ret
              exact ⟨rfl, HMJ.out.turn.nopeBelow⟩
      · have b2 : decide ((i : Int) < (lenw : Int)) = false := by simp; omega
        have b2n : decide (i < lenw) = false := by simp; omega
        go_wp2_with fail
        go_loopg [82] 4 (fun k v82 wr => ∃ (j : Nat), v82 = .int .i64 (j : Int) ∧ Hid (k + j = 4) ∧ MemX w g cs log hb (heldObj cs) wr)
        case atStart => exact ⟨0, rfl, rfl, HM3.out⟩
        case round =>
          obtain ⟨j, rfl, hj, hm⟩ := hrel
          have HMJ := Lib.hid hm
          clear hm HM3
          have hj0 : _ = 4 := hj.out
          by_cases hj4 : j < 4
          · have d1 : decide ((j : Int) < 4) = true := by simp; omega
            have d1n : decide (j < 4) = true := by simp; omega
            have hwj : wrap64 ((j : Int) + 1) = (j : Int) + 1 := IntWalk.wrap64_in _ ⟨by omega, by omega⟩
            obtain ⟨s, hs⟩ : ∃ s, cs[j]? = some s := ⟨cs[j]'(by have := hi.out.2.2.1; omega), by rw [List.getElem?_eq_getElem]⟩
            have HS := Lib.hid hs
            clear hs
            have SAT : Hid (∀ W, MemX w g cs log hb (heldObj cs) W → MemX w g cs log hb (heldObj cs) W ∧ W.cell? ⟨hb, j, none⟩ = some (.string s)) := fun W R => ⟨R, by rw [blk_cell (show W.heap[hb]? = some (.cells (cs.map Value.string).toArray 39 (0, 0)) from R.blk)]; simp [HS.out]⟩
            have q1 : (s.toList != s.toList) = false := by simp
            have i1 : (0 : Int) ≤ (j : Int) := by omega
            have i2 : (j : Int) < 4 := by omega
            go_wp2_with fail
            go_region_held3 (fun W => MemX w g cs log hb (heldObj cs) W ∧ W.cell? ⟨hb, j, none⟩ = some (.string s)) (first | exact SAT.out _ HMJ.out | exact SAT.out _ (HMJ.out.nope (Turn.refl _ _).drew) | exact SAT.out _ HMK.out | exact SAT.out _ HML.out)
              (first | (go_at_call 15; refine (memx_look _ (HMJ.out.nope (Turn.refl _ _).drew) j s HS.out).mono ?_; rintro e w' ⟨rfl, hm⟩; have HMK := Lib.hid hm; clear hm) | (go_at_call 16; refine (memx_swaps _ HMK.out HL.out j).mono ?_; rintro e w'' ⟨rfl, hm⟩; rw [HZ.out]; have HML := Lib.hid hm; clear hm))
            go_wp2_with fail
            go_roundg (3 - j)
            case measure => omega
            case rel => exact ⟨j + 1, by go_num, (show 3 - j + (j + 1) = 4 by omega), HML.out⟩
          · have d1 : decide ((j : Int) < 4) = false := by simp; omega
            have d1n : decide (j < 4) = false := by simp; omega
            go_wp2_with fail
            go_ret
            exact ⟨rfl, HMJ.out.turn.nopeBelow⟩
    · have b1 : decide ((i : Int) < (len : Int)) = false := by simp; omega
      have b1n : decide (i < len) = false := by simp; omega
      go_wp2_with fail
      go_loopg [82] 4 (fun k v82 wr => ∃ (j : Nat), v82 = .int .i64 (j : Int) ∧ Hid (k + j = 4) ∧ MemX w g cs log hb (heldObj cs) wr)
      case atStart => exact ⟨0, rfl, rfl, HM3.out⟩
      case round =>
        obtain ⟨j, rfl, hj, hm⟩ := hrel
        have HMJ := Lib.hid hm
        clear hm HM3
        have hj0 : _ = 4 := hj.out
        by_cases hj4 : j < 4
        · have d1 : decide ((j : Int) < 4) = true := by simp; omega
          have d1n : decide (j < 4) = true := by simp; omega
          have hwj : wrap64 ((j : Int) + 1) = (j : Int) + 1 := IntWalk.wrap64_in _ ⟨by omega, by omega⟩
          obtain ⟨s, hs⟩ : ∃ s, cs[j]? = some s := ⟨cs[j]'(by have := hi.out.2.2.1; omega), by rw [List.getElem?_eq_getElem]⟩
          have HS := Lib.hid hs
          clear hs
          have SAT : Hid (∀ W, MemX w g cs log hb (heldObj cs) W → MemX w g cs log hb (heldObj cs) W ∧ W.cell? ⟨hb, j, none⟩ = some (.string s)) := fun W R => ⟨R, by rw [blk_cell (show W.heap[hb]? = some (.cells (cs.map Value.string).toArray 39 (0, 0)) from R.blk)]; simp [HS.out]⟩
          have q1 : (s.toList != s.toList) = false := by simp
          have i1 : (0 : Int) ≤ (j : Int) := by omega
          have i2 : (j : Int) < 4 := by omega
          go_wp2_with fail
          go_region_held3 (fun W => MemX w g cs log hb (heldObj cs) W ∧ W.cell? ⟨hb, j, none⟩ = some (.string s)) (first | exact SAT.out _ HMJ.out | exact SAT.out _ (HMJ.out.nope (Turn.refl _ _).drew) | exact SAT.out _ HMK.out | exact SAT.out _ HML.out)
            (first | (go_at_call 15; refine (memx_look _ (HMJ.out.nope (Turn.refl _ _).drew) j s HS.out).mono ?_; rintro e w' ⟨rfl, hm⟩; have HMK := Lib.hid hm; clear hm) | (go_at_call 16; refine (memx_swaps _ HMK.out HL.out j).mono ?_; rintro e w'' ⟨rfl, hm⟩; rw [HZ.out]; have HML := Lib.hid hm; clear hm))
          go_wp2_with fail
          go_roundg (3 - j)
          case measure => omega
          case rel => exact ⟨j + 1, by go_num, (show 3 - j + (j + 1) = 4 by omega), HML.out⟩
        · have d1 : decide ((j : Int) < 4) = false := by simp; omega
          have d1n : decide (j < 4) = false := by simp; omega
          go_wp2_with fail
          go_ret
          exact ⟨rfl, HMJ.out.turn.nopeBelow⟩
end Go.Proofs.Ytpcfgigmchndjaa
