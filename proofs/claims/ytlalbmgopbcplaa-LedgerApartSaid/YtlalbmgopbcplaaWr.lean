import Derived.Test.YtlalbmgopbcplaaLib
set_option linter.unusedVariables false
namespace Go.Proofs.Ytlalbmgopbcplaa
open Go.RowKit
/-! ### A number's bytes, plain -/
/-- All but the last byte. -/
def hi (n : Nat) : List Nat := if h : n = 0 then [] else hi (n / 128) ++ [128 + n % 128]
termination_by n
decreasing_by omega
/-- A number's bytes. -/
def num (n : Nat) : List Nat := hi (n / 128) ++ [n % 128]
theorem hi_zero : hi 0 = [] := by rw [hi]; simp
theorem hi_pos {n : Nat} (h : n ≠ 0) : hi n = hi (n / 128) ++ [128 + n % 128] := by rw [hi, dif_neg h]
/-- k bytes with 128, the greatest place first. -/
def emitHi (m : Nat) : Nat → List Nat
  | 0 => []
  | j + 1 => (128 + m / 128 ^ j % 128) :: emitHi m j
/-- The bytes from the place j down, as the Writer lays them. -/
def emit (n : Nat) : Nat → List Nat
  | 0 => [n % 128]
  | j + 1 => (128 + n / 128 ^ (j + 1) % 128) :: emit n j
theorem emit_hi (n : Nat) : ∀ k, emit n k = emitHi (n / 128) k ++ [n % 128] := by
  intro k
  induction k with
  | zero => rfl
  | succ k ih =>
    rw [emit, ih, emitHi, Nat.pow_succ, Nat.mul_comm (128 ^ k) 128, ← Nat.div_div_eq_div_mul]
    rfl
theorem emitHi_snoc (m : Nat) : ∀ k, emitHi m (k + 1) = emitHi (m / 128) k ++ [128 + m % 128] := by
  intro k
  induction k with
  | zero => simp [emitHi]
  | succ k ih =>
    rw [emitHi, ih, emitHi, Nat.pow_succ, Nat.mul_comm (128 ^ k) 128, ← Nat.div_div_eq_div_mul]
    rfl
theorem hi_emit : ∀ (k m : Nat), m < 128 ^ k → (k = 0 ∨ 128 ^ (k - 1) ≤ m) → hi m = emitHi m k := by
  intro k
  induction k with
  | zero =>
    intro m h _
    have : m = 0 := by simpa using h
    subst this
    exact hi_zero
  | succ k ih =>
    intro m h h2
    have h3 : 128 ^ k ≤ m := by simpa using h2
    have hp : 0 < 128 ^ k := Nat.pow_pos (by decide)
    rw [Nat.pow_succ] at h
    rw [hi_pos (by omega), emitHi_snoc, ih (m / 128) (by omega)]
    cases k with
    | zero => exact .inl rfl
    | succ k =>
      right
      rw [Nat.pow_succ] at h3
      simp only [Nat.add_sub_cancel]
      omega
theorem emit_num (n k : Nat) (h : n < 128 ^ (k + 1)) (h2 : k = 0 ∨ 128 ^ k ≤ n) : emit n k = num n := by
  rw [emit_hi, num, hi_emit k (n / 128)]
  · rw [Nat.pow_succ] at h; omega
  · rcases h2 with h2 | h2
    · exact .inl h2
    · cases k with
      | zero => exact .inl rfl
      | succ k =>
        right
        rw [Nat.pow_succ] at h2
        simp only [Nat.add_sub_cancel]
        omega

theorem pow_7 (k : Nat) : 2 ^ (7 * k) = 128 ^ k := by rw [Nat.pow_mul]
theorem shr_run (n k : Nat) (hn : n < 18446744073709551616) (y : Int) (hy : y = 7 * (k : Int)) : ∀ W, (Op.shift .shr .u64 (n : Int) .i64 y).run Try.prog W = .ok (.int .u64 ((n / 128 ^ k : Nat) : Int)) W := by
  intro W
  subst hy
  rw [shift_shr_any _ _ _ _ (by omega)]
  show Result.ok _ _ = _
  congr 2
  have h1 : (7 * (k : Int)).toNat = 7 * k := by omega
  rw [h1, ← pow_7]
  by_cases h : 7 * k ≤ 64
  · rw [Nat.min_eq_left (show 7 * k ≤ IntKind.u64.bits from h)]
    rw [Int.natCast_ediv]; simp
  · rw [Nat.min_eq_right (show IntKind.u64.bits ≤ 7 * k by show 64 ≤ _; omega)]
    have h2 : 2 ^ 64 ≤ 2 ^ (7 * k) := Nat.pow_le_pow_right (by decide) (by omega)
    have h3 : n / 2 ^ (7 * k) = 0 := Nat.div_eq_of_lt (by omega)
    have h4 : n / 2 ^ 64 = 0 := Nat.div_eq_of_lt (by omega)
    rw [h3]
    show (n : Int) / 2 ^ 64 = _
    have : ((n / 2 ^ 64 : Nat) : Int) = (n : Int) / 2 ^ 64 := by rw [Int.natCast_ediv]; simp
    rw [← this, h4]

theorem and127 (a : Nat) : bits .and .u8 (IntKind.u8.wrap (a : Int)) 127 = ((a % 128 : Nat) : Int) := by
  have hw : IntKind.u8.wrap (a : Int) = ((a % 256 : Nat) : Int) := by
    show (a : Int) % 256 = _
    omega
  rw [hw]
  have h : (BitVec.ofInt 8 ((a % 256 : Nat) : Int) &&& BitVec.ofInt 8 127).toNat = a % 128 := by
    rw [BitVec.toNat_and]
    have h1 : (BitVec.ofInt 8 ((a % 256 : Nat) : Int)).toNat = a % 256 := by simp; omega
    have h2 : (BitVec.ofInt 8 127).toNat = 2 ^ 7 - 1 := by decide
    rw [h1, h2, Nat.and_two_pow_sub_one_eq_mod]
    omega
  show IntKind.u8.wrap (((BitVec.ofInt 8 ((a % 256 : Nat) : Int) &&& BitVec.ofInt 8 127).toNat : Nat) : Int) = _
  rw [h]
  show ((a % 128 : Nat) : Int) % 256 = _
  omega
theorem or128 (x : Nat) (hx : x < 128) : bits .or .u8 (x : Int) 128 = ((128 + x : Nat) : Int) := by
  have h : ∀ y : Fin 128, bits .or .u8 ((y.val : Nat) : Int) 128 = ((128 + y.val : Nat) : Int) := by decide
  exact h ⟨x, hx⟩

theorem news_new (W : World) (cs : Array Value) (t : TypeId) : ∀ j u, cs.toList[j]? = some u → (W.alloc (.cells cs t)).cell? ((⟨W.heap.size, 0, none⟩ : Addr).add j) = some u := by
  intro j u hj
  rw [show (⟨W.heap.size, 0, none⟩ : Addr).add j = ⟨W.heap.size, j, none⟩ by unfold Addr.add; split <;> simp_all, blk_cell (blk_new W _)]
  simpa using hj
theorem Try.info5 : (Try.prog.info? 5).map (fun i => (i.zero, i.size, i.bytes)) = some (some (.int .u8 0), 1, 1) := by kernel_rfl
def u8s (l : List Nat) : List Value := l.map fun (x : Nat) => Value.int .u8 (x : Int)
/-- A Writer that holds the bytes bs, its blocks in F. -/
structure WrAt (w : World) (base : Nat) (F : Nat → Prop) (g : Nat) (v : Value) (bs : List Nat) : Prop where
  hd : w.heap[g]? = some (.cells #[v] 49 (0, 0))
  row : w.ownsRow base 5 1 v bs.length (u8s bs)
  fg : F g
  fv : ∀ k, v.ownBlock = some k → F k
  lt : ∀ k, F k → k < w.heap.size
  lo : ∀ k, F k → base ≤ k
variable {w w' : World} {base : Nat} {F : Nat → Prop} {g : Nat} {v : Value} {bs : List Nat}
theorem WrAt.turn (h : WrAt w base F g v bs) {S : Nat → Prop} (ht : Turn S w w') (hS : ∀ k, S k → ¬ F k) : WrAt w' base F g v bs :=
  ⟨ht.blk h.hd (fun hs => hS _ hs h.fg), own_turn h.row ht (fun k hk hs => hS k hs (h.fv k hk)), h.fg, h.fv, fun k hk => Nat.lt_of_lt_of_le (h.lt k hk) ht.size, h.lo⟩
/-- The bytes more. -/
theorem WrAt.more {W W1 : World} {cs : List Nat} (h : WrAt w base F g v bs) (ht : Turn Nope w W) (hg : W.grownBy W1 v.ownBlock) {g1 cap1 : Nat} (ho : W1.ownsRow base 5 1 (.slice (some ⟨g1, 0, none⟩) (bs ++ cs).length cap1) (bs ++ cs).length (u8s (bs ++ cs))) (ha : v.ownBlock = some g1 ∨ w.heap.size ≤ g1) (hl : g1 < W1.heap.size) :
    WrAt (W1.setCell ⟨g, 0, none⟩ (.slice (some ⟨g1, 0, none⟩) (bs ++ cs).length cap1)) base (fun k => F k ∨ (w.heap.size ≤ k ∧ k < (W1.setCell ⟨g, 0, none⟩ (.slice (some ⟨g1, 0, none⟩) (bs ++ cs).length cap1)).heap.size)) g (.slice (some ⟨g1, 0, none⟩) (bs ++ cs).length cap1) (bs ++ cs) ∧
      Turn F w (W1.setCell ⟨g, 0, none⟩ (.slice (some ⟨g1, 0, none⟩) (bs ++ cs).length cap1)) := by
  have hh : g1 < (W1.setCell ⟨g, 0, none⟩ (.slice (some ⟨g1, 0, none⟩) (bs ++ cs).length cap1)).heap.size := by simpa [World.setCell] using hl
  have ht6 : Turn F w W1 := (ht.ofNope (S := F)).grown hg (fun k hk => .inl (h.fv k hk))
  have ht7 : Turn F w (W1.setCell ⟨g, 0, none⟩ (.slice (some ⟨g1, 0, none⟩) (bs ++ cs).length cap1)) := ht6.setCell (p := ⟨g, 0, none⟩) (.inl h.fg) _
  have hd6 : W1.heap[g]? = _ := blk_grown (ht.blk h.hd id) hg (fun e => own_ne h.row h.hd (by decide) g e rfl)
  have hts : Turn (At g) W1 (W1.setCell ⟨g, 0, none⟩ (.slice (some ⟨g1, 0, none⟩) (bs ++ cs).length cap1)) := (Turn.refl _ _).set_at _
  refine ⟨⟨?_, own_turn ho hts (fun k hk => own_ne ho hd6 (by decide) k hk), .inl h.fg, ?_, ?_, ?_⟩, ht7⟩
  · rw [blk_set hd6]; simp
  · intro k hk
    have hk' : g1 = k := by simpa [Value.ownBlock] using hk
    subst hk'
    rcases ha with ha | ha
    · exact .inl (h.fv _ ha)
    · exact .inr ⟨ha, hh⟩
  · intro k hk
    rcases hk with hk | hk
    · exact Nat.lt_of_lt_of_le (h.lt k hk) ht7.size
    · exact hk.2
  · intro k hk
    rcases hk with hk | hk
    · exact h.lo k hk
    · have h1 := h.lo g h.fg; have h2 := h.lt g h.fg; omega
end Go.Proofs.Ytlalbmgopbcplaa
