/- A number read off bytes, plain: what is read is spelled in one way, and what is spelled is read. No program. Writer.Int, Writer.Str: what they lay behind what is there. A Writer's calls, its blocks not named: what they turn is the Writer's own; a block that holds neither bytes nor a Writer stays. -/
import Derived.Test.YteggenihjhclkaaLib
import Derived.Lib.AppendStr
import Derived.Laws.BytesArg
import Derived.Deep.DeepCutAuto
import Derived.Deep.CutBlock
set_option linter.unusedVariables false
set_option maxRecDepth 16000
namespace Go.Proofs.Yteggenihjhclkaa
open Go.RowKit
/-! ### A number's bytes, plain -/
/-- All but the last byte. -/
def hi (n : Nat) : List Nat := if h : n = 0 then [] else hi (n / 128) ++ [128 + n % 128]
termination_by n
decreasing_by omega
/-- A number's bytes. -/
def num (n : Nat) : List Nat := hi (n / 128) ++ [n % 128]
theorem hi_zero : hi 0 = [] := by rw [hi]; simp
theorem hi_pos {n : Nat} (h : n ≠ 0) : hi n = hi (n / 128) ++ [128 + n % 128] := by rw [hi, dif_neg h]
/-- k bytes with 128, the greatest place first. -/
def emitHi (m : Nat) : Nat → List Nat
  | 0 => []
  | j + 1 => (128 + m / 128 ^ j % 128) :: emitHi m j
/-- The bytes from the place j down, as the Writer lays them. -/
def emit (n : Nat) : Nat → List Nat
  | 0 => [n % 128]
  | j + 1 => (128 + n / 128 ^ (j + 1) % 128) :: emit n j
theorem emit_hi (n : Nat) : ∀ k, emit n k = emitHi (n / 128) k ++ [n % 128] := by
  intro k
  induction k with
  | zero => rfl
  | succ k ih =>
    rw [emit, ih, emitHi, Nat.pow_succ, Nat.mul_comm (128 ^ k) 128, ← Nat.div_div_eq_div_mul]
    rfl
theorem emitHi_snoc (m : Nat) : ∀ k, emitHi m (k + 1) = emitHi (m / 128) k ++ [128 + m % 128] := by
  intro k
  induction k with
  | zero => simp [emitHi]
  | succ k ih =>
    rw [emitHi, ih, emitHi, Nat.pow_succ, Nat.mul_comm (128 ^ k) 128, ← Nat.div_div_eq_div_mul]
    rfl
theorem hi_emit : ∀ (k m : Nat), m < 128 ^ k → (k = 0 ∨ 128 ^ (k - 1) ≤ m) → hi m = emitHi m k := by
  intro k
  induction k with
  | zero =>
    intro m h _
    have : m = 0 := by simpa using h
    subst this
    exact hi_zero
  | succ k ih =>
    intro m h h2
    have h3 : 128 ^ k ≤ m := by simpa using h2
    have hp : 0 < 128 ^ k := Nat.pow_pos (by decide)
    rw [Nat.pow_succ] at h
    rw [hi_pos (by omega), emitHi_snoc, ih (m / 128) (by omega)]
    cases k with
    | zero => exact .inl rfl
    | succ k =>
      right
      rw [Nat.pow_succ] at h3
      simp only [Nat.add_sub_cancel]
      omega
theorem emit_num (n k : Nat) (h : n < 128 ^ (k + 1)) (h2 : k = 0 ∨ 128 ^ k ≤ n) : emit n k = num n := by
  rw [emit_hi, num, hi_emit k (n / 128)]
  · rw [Nat.pow_succ] at h; omega
  · rcases h2 with h2 | h2
    · exact .inl h2
    · cases k with
      | zero => exact .inl rfl
      | succ k =>
        right
        rw [Nat.pow_succ] at h2
        simp only [Nat.add_sub_cancel]
        omega

theorem pow_7 (k : Nat) : 2 ^ (7 * k) = 128 ^ k := by rw [Nat.pow_mul]
theorem shr_run (n k : Nat) (hn : n < 18446744073709551616) (y : Int) (hy : y = 7 * (k : Int)) : ∀ W, (Op.shift .shr .u64 (n : Int) .i64 y).run Try.prog W = .ok (.int .u64 ((n / 128 ^ k : Nat) : Int)) W := by
  intro W
  subst hy
  rw [shift_shr_any _ _ _ _ (by omega)]
  show Result.ok _ _ = _
  congr 2
  have h1 : (7 * (k : Int)).toNat = 7 * k := by omega
  rw [h1, ← pow_7]
  by_cases h : 7 * k ≤ 64
  · rw [Nat.min_eq_left (show 7 * k ≤ IntKind.u64.bits from h)]
    rw [Int.natCast_ediv]; simp
  · rw [Nat.min_eq_right (show IntKind.u64.bits ≤ 7 * k by show 64 ≤ _; omega)]
    have h2 : 2 ^ 64 ≤ 2 ^ (7 * k) := Nat.pow_le_pow_right (by decide) (by omega)
    have h3 : n / 2 ^ (7 * k) = 0 := Nat.div_eq_of_lt (by omega)
    have h4 : n / 2 ^ 64 = 0 := Nat.div_eq_of_lt (by omega)
    rw [h3]
    show (n : Int) / 2 ^ 64 = _
    have : ((n / 2 ^ 64 : Nat) : Int) = (n : Int) / 2 ^ 64 := by rw [Int.natCast_ediv]; simp
    rw [← this, h4]

theorem and127 (a : Nat) : bits .and .u8 (IntKind.u8.wrap (a : Int)) 127 = ((a % 128 : Nat) : Int) := by
  have hw : IntKind.u8.wrap (a : Int) = ((a % 256 : Nat) : Int) := by
    show (a : Int) % 256 = _
    omega
  rw [hw]
  have h : (BitVec.ofInt 8 ((a % 256 : Nat) : Int) &&& BitVec.ofInt 8 127).toNat = a % 128 := by
    rw [BitVec.toNat_and]
    have h1 : (BitVec.ofInt 8 ((a % 256 : Nat) : Int)).toNat = a % 256 := by simp; omega
    have h2 : (BitVec.ofInt 8 127).toNat = 2 ^ 7 - 1 := by decide
    rw [h1, h2, Nat.and_two_pow_sub_one_eq_mod]
    omega
  show IntKind.u8.wrap (((BitVec.ofInt 8 ((a % 256 : Nat) : Int) &&& BitVec.ofInt 8 127).toNat : Nat) : Int) = _
  rw [h]
  show ((a % 128 : Nat) : Int) % 256 = _
  omega
theorem or128 (x : Nat) (hx : x < 128) : bits .or .u8 (x : Int) 128 = ((128 + x : Nat) : Int) := by
  have h : ∀ y : Fin 128, bits .or .u8 ((y.val : Nat) : Int) 128 = ((128 + y.val : Nat) : Int) := by decide
  exact h ⟨x, hx⟩

theorem news_new (W : World) (cs : Array Value) (t : TypeId) : ∀ j u, cs.toList[j]? = some u → (W.alloc (.cells cs t)).cell? ((⟨W.heap.size, 0, none⟩ : Addr).add j) = some u := by
  intro j u hj
  rw [show (⟨W.heap.size, 0, none⟩ : Addr).add j = ⟨W.heap.size, j, none⟩ by unfold Addr.add; split <;> simp_all, blk_cell (blk_new W _)]
  simpa using hj
theorem Try.info5 : (Try.prog.info? 5).map (fun i => (i.zero, i.size, i.bytes)) = some (some (.int .u8 0), 1, 1) := by kernel_rfl
def u8s (l : List Nat) : List Value := l.map fun (x : Nat) => Value.int .u8 (x : Int)
/-- A Writer that holds the bytes bs, its blocks in F. -/
structure WrAt (w : World) (base : Nat) (F : Nat → Prop) (g : Nat) (v : Value) (bs : List Nat) : Prop where
  hd : w.heap[g]? = some (.cells #[v] 114 (0, 0))
  row : w.ownsRow base 5 1 v bs.length (u8s bs)
  fg : F g
  fv : ∀ k, v.ownBlock = some k → F k
  lt : ∀ k, F k → k < w.heap.size
  lo : ∀ k, F k → base ≤ k
variable {w w' : World} {base : Nat} {F : Nat → Prop} {g : Nat} {v : Value} {bs : List Nat}
theorem WrAt.turn (h : WrAt w base F g v bs) {S : Nat → Prop} (ht : Turn S w w') (hS : ∀ k, S k → ¬ F k) : WrAt w' base F g v bs :=
  ⟨ht.blk h.hd (fun hs => hS _ hs h.fg), own_turn h.row ht (fun k hk hs => hS k hs (h.fv k hk)), h.fg, h.fv, fun k hk => Nat.lt_of_lt_of_le (h.lt k hk) ht.size, h.lo⟩
/-- The bytes more. -/
theorem WrAt.more {W W1 : World} {cs : List Nat} (h : WrAt w base F g v bs) (ht : Turn Nope w W) (hg : W.grownBy W1 v.ownBlock) {g1 cap1 : Nat} (ho : W1.ownsRow base 5 1 (.slice (some ⟨g1, 0, none⟩) (bs ++ cs).length cap1) (bs ++ cs).length (u8s (bs ++ cs))) (ha : v.ownBlock = some g1 ∨ w.heap.size ≤ g1) (hl : g1 < W1.heap.size) :
    WrAt (W1.setCell ⟨g, 0, none⟩ (.slice (some ⟨g1, 0, none⟩) (bs ++ cs).length cap1)) base (fun k => F k ∨ (w.heap.size ≤ k ∧ k < (W1.setCell ⟨g, 0, none⟩ (.slice (some ⟨g1, 0, none⟩) (bs ++ cs).length cap1)).heap.size)) g (.slice (some ⟨g1, 0, none⟩) (bs ++ cs).length cap1) (bs ++ cs) ∧
      Turn F w (W1.setCell ⟨g, 0, none⟩ (.slice (some ⟨g1, 0, none⟩) (bs ++ cs).length cap1)) := by
  have hh : g1 < (W1.setCell ⟨g, 0, none⟩ (.slice (some ⟨g1, 0, none⟩) (bs ++ cs).length cap1)).heap.size := by simpa [World.setCell] using hl
  have ht6 : Turn F w W1 := (ht.ofNope (S := F)).grown hg (fun k hk => .inl (h.fv k hk))
  have ht7 : Turn F w (W1.setCell ⟨g, 0, none⟩ (.slice (some ⟨g1, 0, none⟩) (bs ++ cs).length cap1)) := ht6.setCell (p := ⟨g, 0, none⟩) (.inl h.fg) _
  have hd6 : W1.heap[g]? = _ := blk_grown (ht.blk h.hd id) hg (fun e => own_ne h.row h.hd (by decide) g e rfl)
  have hts : Turn (At g) W1 (W1.setCell ⟨g, 0, none⟩ (.slice (some ⟨g1, 0, none⟩) (bs ++ cs).length cap1)) := (Turn.refl _ _).set_at _
  refine ⟨⟨?_, own_turn ho hts (fun k hk => own_ne ho hd6 (by decide) k hk), .inl h.fg, ?_, ?_, ?_⟩, ht7⟩
  · rw [blk_set hd6]; simp
  · intro k hk
    have hk' : g1 = k := by simpa [Value.ownBlock] using hk
    subst hk'
    rcases ha with ha | ha
    · exact .inl (h.fv _ ha)
    · exact .inr ⟨ha, hh⟩
  · intro k hk
    rcases hk with hk | hk
    · exact Nat.lt_of_lt_of_le (h.lt k hk) ht7.size
    · exact hk.2
  · intro k hk
    rcases hk with hk | hk
    · exact h.lo k hk
    · have h1 := h.lo g h.fg; have h2 := h.lt g h.fg; omega
end Go.Proofs.Yteggenihjhclkaa
set_option maxRecDepth 16000
namespace Go.Proofs.Yteggenihjhclkaa
open Go.RowKit
def WrIs (w : World) (base : Nat) (F : Nat → Prop) (g : Nat) (bs : List Nat) : Prop := ∃ v, WrAt w base F g v bs
variable {w w' : World} {base : Nat} {F : Nat → Prop} {g : Nat} {bs : List Nat}
theorem WrAt.more2 {W W1 : World} {v : Value} {cs : List Nat} (h : WrAt w base F g v bs) (ht : Turn Nope w W) (hg : W.grownBy W1 v.ownBlock) {g1 cap1 m : Nat} {xs : List Value} (ho : W1.ownsRow base 5 1 (.slice (some ⟨g1, 0, none⟩) m cap1) m xs) (hm : m = (bs ++ cs).length) (hx : xs = u8s (bs ++ cs)) (ha : v.ownBlock = some g1 ∨ w.heap.size ≤ g1) (hl : g1 < W1.heap.size) :
    (∃ F' : Nat → Prop, WrAt (W1.setCell ⟨g, 0, none⟩ (.slice (some ⟨g1, 0, none⟩) m cap1)) base F' g (.slice (some ⟨g1, 0, none⟩) m cap1) (bs ++ cs) ∧ ∀ k, F' k → F k ∨ w.heap.size ≤ k) ∧
      Turn F w (W1.setCell ⟨g, 0, none⟩ (.slice (some ⟨g1, 0, none⟩) m cap1)) := by
  subst hm hx
  have h1 := h.more ht hg ho ha hl
  exact ⟨⟨_, h1.1, fun k hk => hk.imp id And.left⟩, h1.2⟩
theorem u8s_append (a b : List Nat) : u8s (a ++ b) = u8s a ++ u8s b := by simp [u8s]
theorem conv_u8 (a : Nat) : ∀ W, (convert 118 5 (.int .u64 (a : Int))).run Try.prog W = .ok (.int .u8 (IntKind.u8.wrap (a : Int))) W := fun W => by
  kernel_rfl
set_option maxRecDepth 8000 in
set_option maxHeartbeats 4000000 in
theorem num_any (n : Nat) (hn : n < 18446744073709551616) (w : World) (h : WrIs w base F g bs) (hl : bs.length ≤ 1000000) :
    Calls Try.prog 59 #[.pointer (some ⟨g, 0, none⟩), .int .u64 (n : Int)] w fun e w' => e = .returned (.pointer (some ⟨g, 0, none⟩)) ∧ (∃ F' : Nat → Prop, WrIs w' base F' g (bs ++ num n) ∧ ∀ k, F' k → F k ∨ w.heap.size ≤ k) ∧ Turn F w w' := by
  have H := Lib.hid h
  clear h
  go_enter Try.func59, Try.ntmps59
  go_wp2_with fail
  go_loopg [5] 9 (fun gk v5 wr => ∃ k : Nat, v5 = .int .i64 (k : Int) ∧ Hid (gk + k = 9 ∧ (k = 0 ∨ 128 ^ k ≤ n)) ∧ wr = w)
  case atStart => exact ⟨0, rfl, ⟨rfl, .inl rfl⟩, rfl⟩
  case round =>
    obtain ⟨k, rfl, hk, rfl⟩ := hrel
    rename World => wq
    have h9 : k ≤ 9 := by have := hk.out.1; omega
    have hs1 := shr_run n (k + 1) hn (7 * ((k : Int) + 1)) (by omega)
    have hw1 : wrap64 ((k : Int) + 1) = (k : Int) + 1 := IntWalk.wrap64_in _ ⟨by omega, by omega⟩
    have hs2 : (n : Int) / 2 ^ (7 * (k + 1)) = ((n / 128 ^ (k + 1) : Nat) : Int) := by rw [← pow_7, Int.natCast_ediv]; simp
    have hq0 : 0 < n / 128 ^ (k + 1) → 128 ^ (k + 1) ≤ n := fun hp => Nat.le_of_not_lt (fun h => by rw [Nat.div_eq_of_lt h] at hp; omega)
    have hq1 : n / 128 ^ (k + 1) = 0 → n < 128 ^ (k + 1) := fun h => by rcases Nat.div_eq_zero_iff.1 h with h | h; exact absurd h (Nat.ne_of_gt (Nat.pow_pos (by decide))); exact h
    generalize n / 128 ^ (k + 1) = q at *
    by_cases hp : 0 < q
    · have b1 : decide ((0 : Int) < (q : Int)) = true := by simp; omega
      have b1n : decide (0 < q) = true := by simpa using hp
      by_cases hk9 : k < 9
      · have b2 : decide ((k : Int) < 9) = true := by simp; omega
        have b2n : decide (k < 9) = true := by simpa using hk9
        have hpw := Lib.hid (hq0 hp)
        clear hq0 hq1
        go_wp2_with fail
        go_roundg (8 - k)
        case measure => have := hk.out.1; omega
        case rel => exact ⟨k + 1, by go_num, ⟨by omega, .inr hpw.out⟩, rfl⟩
      · exfalso
        have h10 : k = 9 := by omega
        subst h10
        have := hq0 hp
        omega
    · have hq : q = 0 := by omega
      subst hq
      have hnk := Lib.hid (hq1 rfl)
      clear hq0 hq1 hp
      go_wp2_with fail
      go_loopg [5] (k + 1) (fun gj v5 wr => ∃ (done : List Nat) (F' : Nat → Prop) (z : Int), v5 = .int .i64 z ∧ Hid (z = (gj : Int) - 1 ∧ gj ≤ k + 1 ∧ done ++ (if gj = 0 then [] else emit n (gj - 1)) = emit n k ∧ (∀ x, F' x → F x ∨ wq.heap.size ≤ x) ∧ done.length + gj = k + 1) ∧ WrIs wr base F' g (bs ++ done) ∧ Turn F wq wr)
      case atStart => exact ⟨[], F, _, rfl, ⟨by omega, Nat.le_refl _, by simp, fun _ h => .inl h, by simp⟩, by simpa using H.out, Turn.refl _ _⟩
      case round =>
        obtain ⟨done, F', z, rfl, hj, hw, ht⟩ := hrel
        have HW := Lib.hid hw
        have HT := Lib.hid ht
        clear hw ht
        rename World => wl
        by_cases hg0 : gk = 0
        · obtain rfl : z = -1 := by have := hj.out.1; omega
          have hd : bs ++ done = bs ++ num n := by
            have h1 := hj.out.2.2.1
            rw [if_pos hg0, List.append_nil] at h1
            rw [h1, emit_num n _ hnk.out hk.out.2]
          have HD := Lib.hid hd
          clear hd
          go_wp2_with fail
          go_ret
          exact ⟨rfl, ⟨F', by rw [← HD.out]; exact HW.out, hj.out.2.2.2.1⟩, HT.out⟩
        · obtain ⟨i5, hi5, hz5, hs5, hb5⟩ := info_parts Try.info5
          have I5 := Lib.hid (And.intro hi5 (And.intro hz5 (And.intro hs5 hb5)))
          clear hi5 hz5 hs5 hb5
          obtain ⟨v, hv⟩ := HW.out
          have HV := Lib.hid hv
          clear hv
          have c0 := blk_cell HV.out.hd 0
          have c0f := blk_frozen HV.out.hd 0
          simp at c0
          obtain ⟨j, hgj⟩ : ∃ j, gk = j + 1 := ⟨gk - 1, by omega⟩
          have hj9 : j ≤ 9 := by have := hj.out.2.1; omega
          obtain rfl : z = (j : Int) := by have := hj.out.1; omega
          have LB0 : Hid ((bs ++ done).length ≤ 1000010) := by have := hj.out.2.2.2.2; show (bs ++ done).length ≤ _; rw [List.length_append]; omega
          have HNG : Hid (v.ownBlock ≠ some g) := fun e => own_ne HV.out.row HV.out.hd (by decide) g e rfl
          have HLO : Hid (base ≤ wl.heap.size) := by have h1 := HV.out.lo g HV.out.fg; have h2 := HV.out.lt g HV.out.fg; show base ≤ _; omega
          have HRW := Lib.hid HV.out.row
          obtain ⟨L, X, HLL, HRX, LB⟩ : ∃ (L : Nat) (X : List Value), Hid (L = (bs ++ done).length ∧ X = u8s (bs ++ done)) ∧ Hid (wl.ownsRow base 5 1 v L X) ∧ Hid (L ≤ 1000010) := ⟨_, _, ⟨rfl, rfl⟩, HRW.out, LB0.out⟩
          clear HRW LB0
          by_cases hj0 : j = 0
          · subst hj0
            have ha0 : bits .and .u8 ((n : Int) % 256) 127 = (((n % 128 : Nat)) : Int) := and127 n
            have HEN : Hid (done ++ [n % 128] = emit n k) := by
              have h1 := hj.out.2.2.1
              rw [if_neg hg0, hgj] at h1
              exact h1
            generalize n % 128 = D at *
            have HBS := Lib.hid (own_nope HRX.out ((Turn.refl _ _).alloc (.cells #[.int .u8 ((D : Nat) : Int)] 5)))
            go_wp2_with (first | (at_builtin; refine wpList_append_lies _ rfl (.tmp 37) (.tmp 39) 112 rfl base 5 i5 _ 1 1 Try.underlying112 I5.out.1 I5.out.2.1 I5.out.2.2.1 I5.out.2.2.2 rfl (by omega) v L X rfl HBS.out ⟨wl.heap.size, 0, none⟩ 1 1 (u8s [D]) rfl rfl (news_new wl #[.int .u8 ((D : Nat) : Int)] 5) (by intro u hu; simp [u8s] at hu; subst hu; rfl) (by omega) (by have := LB.out; unfold maxLen; omega) (by have := LB.out; omega) (by have := HLO.out; simp; omega) (wl.heap.size + 1) (by simp) ?_; intro g1 cap1 w6 hown1 hgr1 hat1 hlt1; have HO1 := Lib.hid hown1; have HG1 := Lib.hid hgr1; have HA1 := Lib.hid hat1; have HL1 := Lib.hid hlt1; clear hown1 hgr1 hat1 hlt1; have HD6 := Lib.hid (blk_grown (blk_alloc HV.out.hd (.cells #[.int .u8 ((D : Nat) : Int)] 5)) HG1.out HNG.out); have d0 := blk_cell HD6.out 0; have d0f := blk_frozen HD6.out 0; simp at d0))
            go_roundg 0
            case measure => omega
            case rel =>
              have HM := HV.out.more2 (cs := [D]) ((Turn.refl _ _).alloc _) HG1.out HO1.out (by rw [HLL.out.1]; simp; omega) (by rw [HLL.out.2]; simp [u8s_append]) (HA1.out.imp id (fun e => by omega)) HL1.out
              obtain ⟨⟨F2, hF2, hk2⟩, ht2⟩ := HM
              refine ⟨done ++ [D], F2, -1, by go_num, ⟨by omega, by omega, by simpa using HEN.out, fun x hx => ?_, by have := hj.out.2.2.2.2; simp; omega⟩, ⟨_, by rw [← List.append_assoc]; exact hF2⟩, HT.out.then ht2 hj.out.2.2.2.1⟩
              rcases hk2 x hx with h1 | h1
              · exact hj.out.2.2.2.1 x h1
              · right; have := HT.out.size; omega
          · have b3 : decide ((0 : Int) < (j : Int)) = true := by simp; omega
            have b3n : decide (0 < j) = true := by simp; omega
            have hsj := shr_run n j hn (7 * (j : Int)) rfl
            have hsj2 : (n : Int) / 2 ^ (7 * j) = ((n / 128 ^ j : Nat) : Int) := by rw [← pow_7, Int.natCast_ediv]; simp
            have HEN : Hid (done ++ (128 + n / 128 ^ j % 128) :: emit n (j - 1) = emit n k) := by
              have h1 := hj.out.2.2.1
              rw [if_neg hg0, hgj] at h1
              rw [← h1]
              show _ = done ++ emit n (j + 1 - 1)
              rw [Nat.add_sub_cancel]
              cases j with
              | zero => exact absurd rfl hj0
              | succ j => rfl
            generalize n / 128 ^ j = q at *
            have ha : bits .and .u8 ((q : Int) % 256) 127 = ((q % 128 : Nat) : Int) := and127 q
            have ho := or128 (q % 128) (Nat.mod_lt _ (by decide))
            generalize q % 128 = r at *
            have hdr : (128 : Int) + (r : Int) = ((128 + r : Nat) : Int) := by simp
            have HBS := Lib.hid (own_nope HRX.out ((Turn.refl _ _).alloc (.cells #[.int .u8 (((128 + r : Nat)) : Int)] 5)))
            generalize 128 + r = D at *
            go_wp2_with (first | (at_builtin; refine wpList_append_lies _ rfl (.tmp 37) (.tmp 39) 112 rfl base 5 i5 _ 1 1 Try.underlying112 I5.out.1 I5.out.2.1 I5.out.2.2.1 I5.out.2.2.2 rfl (by omega) v L X rfl HBS.out ⟨wl.heap.size, 0, none⟩ 1 1 (u8s [D]) rfl rfl (news_new wl #[.int .u8 ((D : Nat) : Int)] 5) (by intro u hu; simp [u8s] at hu; subst hu; rfl) (by omega) (by have := LB.out; unfold maxLen; omega) (by have := LB.out; omega) (by have := HLO.out; simp; omega) (wl.heap.size + 1) (by simp) ?_; intro g1 cap1 w6 hown1 hgr1 hat1 hlt1; have HO1 := Lib.hid hown1; have HG1 := Lib.hid hgr1; have HA1 := Lib.hid hat1; have HL1 := Lib.hid hlt1; clear hown1 hgr1 hat1 hlt1; have HD6 := Lib.hid (blk_grown (blk_alloc HV.out.hd (.cells #[.int .u8 ((D : Nat) : Int)] 5)) HG1.out HNG.out); have d0 := blk_cell HD6.out 0; have d0f := blk_frozen HD6.out 0; simp at d0))
            go_roundg j
            case measure => omega
            case rel =>
              have HM := HV.out.more2 (cs := [D]) ((Turn.refl _ _).alloc _) HG1.out HO1.out (by rw [HLL.out.1]; simp; omega) (by rw [HLL.out.2]; simp [u8s_append]) (HA1.out.imp id (fun e => by omega)) HL1.out
              obtain ⟨⟨F2, hF2, hk2⟩, ht2⟩ := HM
              refine ⟨done ++ [D], F2, (j : Int) - 1, by go_num, ⟨by omega, by have := hj.out.2.1; omega, ?_, fun x hx => ?_, by have := hj.out.2.2.2.2; simp; omega⟩, ⟨_, by rw [← List.append_assoc]; exact hF2⟩, HT.out.then ht2 hj.out.2.2.2.1⟩
              · rw [if_neg hj0, List.append_assoc]; exact HEN.out
              · rcases hk2 x hx with h1 | h1
                · exact hj.out.2.2.2.1 x h1
                · right; have := HT.out.size; omega
end Go.Proofs.Yteggenihjhclkaa
set_option maxRecDepth 16000
namespace Go.Proofs.Yteggenihjhclkaa
open Go.RowKit Go.Lib
/-- A text's bytes. -/
def nb (s : ByteArray) : List Nat := s.data.toList.map UInt8.toNat
theorem nb_length (s : ByteArray) : (nb s).length = s.size := by
  show (s.data.toList.map UInt8.toNat).length = s.data.size
  rw [List.length_map, Array.length_toList]
theorem nb_append (s t : ByteArray) : nb (s ++ t) = nb s ++ nb t := by
  show (s ++ t).data.toList.map UInt8.toNat = _
  rw [ByteArray.data_append, Array.toList_append, List.map_append]; rfl
theorem u8s_nb (s : ByteArray) : u8s (nb s) = strCells s := by simp [u8s, nb, strCells]
theorem nb_inj {s t : ByteArray} (h : nb s = nb t) : s = t := by
  have h1 : s.data.toList = t.data.toList := List.map_inj_right (fun a b hab => UInt8.toNat_inj.1 hab) |>.1 h
  have h2 : s.data = t.data := Array.ext' h1
  cases s; cases t; simp_all
theorem num_length (n : Nat) : 0 < (num n).length := by simp [num]
variable {w w' : World} {base : Nat} {F : Nat → Prop} {g : Nat} {bs : List Nat}
theorem strOfNums_nb (s : ByteArray) : strOfNums ((nb s).map fun (x : Nat) => (x : Int)) = s := by
  apply nb_inj
  simp only [nb, strOfNums_data, List.map_map]
  apply List.map_congr_left
  intro a _
  show (UInt8.ofNat (Int.toNat (a.toNat : Int))).toNat = a.toNat
  simp
theorem text_conv {v : Value} {s : ByteArray} (h : WrAt w base F g v (nb s)) : (convert 112 9 v).run Try.prog w = .ok (.string s) w := by
  obtain ⟨A, c, rfl, hc⟩ := own_slice h.row
  rcases h.row.2 with ⟨hv, h0⟩ | ⟨g', cap, cur, hv, r⟩
  · injection hv with hA hn hcap
    subst hA
    rw [run_convert_bytes_nil w 112 5 Try.underlying112 Try.underlying5 _ _ 9 Try.underlying9]
    have : s.size = 0 := by rw [← nb_length]; exact h0
    have : s = ByteArray.empty := by
      apply nb_inj; rw [List.eq_nil_of_length_eq_zero (l := nb s) (by rw [nb_length]; exact this)]; rfl
    rw [this]
  · injection hv with hA hn hcap
    subst hA
    rw [run_convert_bytes_arg w 112 5 Try.underlying112 Try.underlying5 g' 0 _ c ((nb s).map fun (x : Nat) => (x : Int)) (by simp) (fun i hi => by
      rw [Nat.zero_add]
      have he := own_elem (cap := c) h.row i (u := .int .u8 (((nb s).map fun (x : Nat) => (x : Int)).getD i 0)) (by
        simp [u8s, List.getD, List.getElem?_eq_getElem hi])
      exact he) 9 Try.underlying9, strOfNums_nb]
theorem wtext_any (s : ByteArray) (w : World) (h : WrIs w base F g (nb s)) : Calls Try.prog 58 #[.pointer (some ⟨g, 0, none⟩)] w fun e w' => e = .returned (.string s) ∧ w' = w := by
  obtain ⟨v, hv⟩ := h
  have HV := Lib.hid hv
  have hc := text_conv hv
  have c0 := blk_cell HV.out.hd 0
  have c0f := blk_frozen HV.out.hd 0
  simp at c0
  clear hv
  go_enter Try.func58, Try.ntmps58
  go_wp2_with fail
  go_ret
  exact ⟨rfl, rfl⟩
end Go.Proofs.Yteggenihjhclkaa
set_option maxRecDepth 16000
namespace Go.Proofs.Yteggenihjhclkaa
/-- A number of the bytes: how it fails, or the number and what is left. -/
def readNum (v i : Nat) : List Nat → Except Int (Nat × List Nat)
  | [] => .error 1
  | b :: l => if (i = 0 ∧ b = 128) ∨ 144115188075855872 ≤ v then .error 2 else if b < 128 then .ok (v * 128 + b, l) else readNum (v * 128 + b % 128) (i + 1) l
theorem num_more (v b : Nat) (hb : b < 128) : num (v * 128 + b) = hi v ++ [b] := by
  rw [num, show (v * 128 + b) / 128 = v by omega, show (v * 128 + b) % 128 = b by omega]
theorem hi_more (v b : Nat) (hb : b < 128) (h : v * 128 + b ≠ 0) : hi (v * 128 + b) = hi v ++ [128 + b] := by
  rw [hi_pos h, show (v * 128 + b) / 128 = v by omega, show (v * 128 + b) % 128 = b by omega]
theorem readNum_one : ∀ (l : List Nat) (v i n : Nat) (r : List Nat), (∀ x ∈ l, x < 256) → (i = 0 → v = 0) → (i ≠ 0 → v ≠ 0) → readNum v i l = .ok (n, r) → hi v ++ l = num n ++ r ∧ n < 18446744073709551616 := by
  intro l
  induction l with
  | nil => intro v i n r _ _ _ h; cases h
  | cons b l ih =>
    intro v i n r hl h0 h1 h
    rw [readNum] at h
    split at h
    · cases h
    · rename_i hn
      have hb : b < 256 := hl b (by simp)
      split at h
      · rename_i h2
        injection h with h
        injection h with h3 h4
        subst h3 h4
        rw [num_more v b h2]
        refine ⟨by simp, by omega⟩
      · rename_i h2
        have hne : v * 128 + b % 128 ≠ 0 := by
          by_cases hi0 : i = 0
          · have : b ≠ 128 := fun e => hn (.inl ⟨hi0, e⟩)
            omega
          · have := h1 hi0; omega
        obtain ⟨h3, h4⟩ := ih (v * 128 + b % 128) (i + 1) n r (fun x hx => hl x (by simp [hx])) (by omega) (fun _ => hne) h
        refine ⟨?_, h4⟩
        rw [hi_more v (b % 128) (by omega) hne, List.append_assoc] at h3
        rw [show b = 128 + b % 128 by omega]
        simpa using h3
theorem readNum_emit (n : Nat) (hn : n < 18446744073709551616) (r : List Nat) : ∀ (k i : Nat), (i = 0 → n < 128 ^ (k + 1) ∧ (k = 0 ∨ 128 ^ k ≤ n)) → readNum (n / 128 ^ (k + 1)) i (emit n k ++ r) = .ok (n, r) := by
  intro k
  induction k with
  | zero =>
    intro i _
    rw [emit, List.cons_append, readNum, if_neg (by omega), if_pos (by omega)]
    simp only [List.nil_append]
    rw [show n / 128 ^ (0 + 1) * 128 + n % 128 = n by omega]
  | succ k ih =>
    intro i hi0
    have hp : n / 128 ^ (k + 1 + 1) = n / 128 ^ (k + 1) / 128 := by rw [Nat.pow_succ 128 (k + 1), Nat.div_div_eq_div_mul]
    have h1 : i = 0 → 0 < n / 128 ^ (k + 1) := fun h => Nat.div_pos ((hi0 h).2.resolve_left (by omega)) (Nat.pow_pos (by decide))
    have h2 : n / 128 ^ (k + 1) < 144115188075855872 := by
      rw [Nat.pow_succ 128 k, Nat.mul_comm, ← Nat.div_div_eq_div_mul]
      exact Nat.lt_of_le_of_lt (Nat.div_le_self _ _) (by omega)
    rw [emit, List.cons_append, readNum, hp]
    by_cases hz : i = 0 ∧ 128 + n / 128 ^ (k + 1) % 128 = 128
    · exfalso
      have h3 := h1 hz.1
      have h4 : n / 128 ^ (k + 1) < 128 := Nat.div_lt_of_lt_mul (by have := (hi0 hz.1).1; rw [Nat.pow_succ] at this; exact this)
      omega
    rw [if_neg (by rintro (h | h); exact hz h; omega), if_neg (by omega)]
    have := ih (i + 1) (by omega)
    rw [show n / 128 ^ (k + 1) / 128 * 128 + (128 + n / 128 ^ (k + 1) % 128) % 128 = n / 128 ^ (k + 1) by omega]
    exact this
theorem digits (n : Nat) : ∃ k, n < 128 ^ (k + 1) ∧ (k = 0 ∨ 128 ^ k ≤ n) := by
  induction n using Nat.strongRecOn with
  | _ n ih =>
    by_cases h : n < 128
    · exact ⟨0, by simpa using h, .inl rfl⟩
    · obtain ⟨k, h1, h2⟩ := ih (n / 128) (by omega)
      refine ⟨k + 1, ?_, .inr ?_⟩
      · rw [Nat.pow_succ]; omega
      · rw [Nat.pow_succ]
        rcases h2 with rfl | h2
        · simp; omega
        · omega
theorem readNum_num (n : Nat) (hn : n < 18446744073709551616) (r : List Nat) : readNum 0 0 (num n ++ r) = .ok (n, r) := by
  obtain ⟨k, h1, h2⟩ := digits n
  rw [← emit_num n k h1 h2]
  have := readNum_emit n hn r k 0 (fun _ => ⟨h1, h2⟩)
  rwa [Nat.div_eq_of_lt h1] at this
theorem num_lt (n : Nat) : ∀ x ∈ num n, x < 256 := by
  have h : ∀ m, ∀ x ∈ hi m, x < 256 := by
    intro m
    induction m using Nat.strongRecOn with
    | _ m ih =>
      intro x hx
      by_cases h0 : m = 0
      · subst h0; rw [hi_zero] at hx; cases hx
      · rw [hi_pos h0] at hx
        simp at hx
        rcases hx with hx | hx
        · exact ih (m / 128) (by omega) x hx
        · omega
  intro x hx
  rw [num] at hx
  simp at hx
  rcases hx with hx | hx
  · exact h _ x hx
  · omega
theorem nb_lt (s : ByteArray) : ∀ x ∈ nb s, x < 256 := by
  intro x hx
  simp only [nb, List.mem_map] at hx
  obtain ⟨a, _, rfl⟩ := hx
  exact a.toNat_lt
/-- Bytes as a text. -/
def bstr (l : List Nat) : ByteArray := ⟨(l.map UInt8.ofNat).toArray⟩
theorem nb_bstr (l : List Nat) (h : ∀ x ∈ l, x < 256) : nb (bstr l) = l := by
  rw [nb, bstr, List.map_map]
  conv => rhs; rw [← List.map_id l]
  apply List.map_congr_left
  intro a ha
  show (UInt8.ofNat a).toNat = a
  rw [UInt8.toNat_ofNat']
  exact Nat.mod_eq_of_lt (h a ha)
theorem bstr_nb (s : ByteArray) : bstr (nb s) = s := nb_inj (nb_bstr _ (nb_lt s))
end Go.Proofs.Yteggenihjhclkaa
set_option maxRecDepth 16000
namespace Go.Proofs.Yteggenihjhclkaa
open Go.RowKit Go.Lib
variable {w w' : World} {base : Nat} {F : Nat → Prop} {g : Nat} {bs : List Nat}
theorem emit_length (n : Nat) : ∀ k, (emit n k).length = k + 1 := by
  intro k
  induction k with
  | zero => rfl
  | succ k ih => rw [emit, List.length_cons, ih]
theorem num_le (n : Nat) (h : n < 18446744073709551616) : (num n).length ≤ 10 := by
  obtain ⟨k, h1, h2⟩ := digits n
  rw [← emit_num n k h1 h2, emit_length]
  rcases h2 with rfl | h2
  · decide
  · have : k < 10 := by
      refine Nat.lt_of_not_le fun hk => ?_
      have h3 : 128 ^ 10 ≤ 128 ^ k := Nat.pow_le_pow_right (by decide) hk
      have h4 : 18446744073709551616 ≤ 128 ^ 10 := by decide
      omega
    omega
theorem WrIs.opened (h : WrIs w base F g bs) : ∃ v L X, Hid (WrAt w base F g v bs) ∧ Hid (L = bs.length ∧ X = u8s bs) ∧ Hid (w.ownsRow base 5 1 v L X) ∧ Hid (v.ownBlock ≠ some g) ∧ Hid (base ≤ w.heap.size) ∧ w.cell? ⟨g, 0, none⟩ = some v ∧ w.frozen? ⟨g, 0, none⟩ = false := by
  obtain ⟨v, hv⟩ := h
  refine ⟨v, _, _, hv, ⟨rfl, rfl⟩, hv.row, fun e => own_ne hv.row hv.hd (by decide) g e rfl, ?_, by rw [blk_cell hv.hd 0]; rfl, blk_frozen hv.hd 0⟩
  have h1 := hv.lo g hv.fg; have h2 := hv.lt g hv.fg
  show base ≤ _; omega
/-- A string behind a row of one's own that holds something: where the new row lies. -/
theorem run_append_str {base n : Nat} {v : Value} {xs : List Value} {s : ByteArray} (ho : w.ownsRow base 5 1 v n xs) (hn : 0 < n) (hl : n + s.size ≤ 100000000) (hb : base ≤ w.heap.size) :
    ∃ g1 cap1 w1, (Builtin.append_ #[112, 9] 112 #[v, .string s]).run Try.prog w = .ok (.slice (some ⟨g1, 0, none⟩) (n + s.size) cap1) w1 ∧ w1.ownsRow base 5 1 (.slice (some ⟨g1, 0, none⟩) (n + s.size) cap1) (n + s.size) (xs ++ u8s (nb s)) ∧ w.grownBy w1 v.ownBlock ∧ (v.ownBlock = some g1 ∨ g1 = w.heap.size) ∧ g1 < w1.heap.size := by
  obtain ⟨i5, hi5, hz5, hs5, hb5⟩ := info_parts Try.info5
  obtain ⟨v', w1, hr, h2, h3, h4⟩ := run_append_own_string (P := Try.prog) w base 112 9 112 5 i5 Try.underlying112 Try.underlying9 hi5 hz5 hs5 hb5 v n xs ho s (by unfold maxLen; omega) (by omega) hb
  obtain ⟨g1, cap1, rfl, hg1, hlt⟩ := h2.form (by omega)
  rw [u8s_nb]
  refine ⟨g1, cap1, w1, hr, h2, h3, ?_, hlt⟩
  rcases ho.2 with ⟨_, h0⟩ | ⟨g0, cap, cur, rfl, hb0, hh, hc1, hc2, hc3, hc4⟩
  · omega
  · by_cases hroom : n + s.size ≤ cap
    · have := run_append_room_string (P := Try.prog) w 112 9 112 5 i5 Try.underlying112 Try.underlying9 hi5 hs5 g0 n cap cur hh s hroom (by omega)
      rw [hr] at this
      injection this with e1 e2
      injection e1 with e3 _ _
      injection e3 with e4
      injection e4 with e5 _ _
      left; rw [e5]; rfl
    · have hx : xs.length = n := by simpa using ho.1
      have := run_append_grow_string (P := Try.prog) w 112 9 112 5 i5 _ Try.underlying112 Try.underlying9 hi5 hz5 ⟨g0, 0, none⟩ n cap xs (by rw [hs5]; simpa using hx) (ho.cells (g := g0) rfl) s (by omega) (by omega) (by rw [hb5]; exact growslice_fits (by omega) (by omega))
      rw [hr] at this
      injection this with e1 e2
      injection e1 with e3 _ _
      injection e3 with e4
      injection e4 with e5 _ _
      exact .inr e5
theorem wpList_append_str {ops : Array Oper} {rest : List Oper} {o : Oper} {a : Act} {Q : Exit → Act → World → Prop} (hgd : o.guard = none) (sl x : Operand)
    (hop : o.op = .call { callee := .builtin .append, args := #[sl, x], argTypes := #[112, 9] }) (hty : o.type = 112)
    {base n : Nat} {v : Value} {xs : List Value} {s : ByteArray} (hs : a.eval sl = v) (hx : a.eval x = .string s) (ho : w.ownsRow base 5 1 v n xs) (hn : 0 < n) (hl : n + s.size ≤ 100000000) (hb : base ≤ w.heap.size)
    (h : ∀ g1 cap1 w1, w1.ownsRow base 5 1 (.slice (some ⟨g1, 0, none⟩) (n + s.size) cap1) (n + s.size) (xs ++ u8s (nb s)) → w.grownBy w1 v.ownBlock → (v.ownBlock = some g1 ∨ g1 = w.heap.size) → g1 < w1.heap.size → wpList Try.prog ops Q rest (a.put o.dst (.slice (some ⟨g1, 0, none⟩) (n + s.size) cap1)) w1) : wpList Try.prog ops Q (o :: rest) a w := by
  refine wpList_plain hgd fun K hK => ?_
  obtain ⟨g1, cap1, w1, hr, h2, h3, h4, h5⟩ := run_append_str ho hn hl hb
  unfold Oper.wp execOp
  simp only [hop, hty, resolve, invoke, builtin, Sem.run_bind, Sem.run_pure, Result.andThen_ok, List.map_toArray, List.map_cons, List.map_nil, hs, hx, hr]
  exact hK _ _ (h g1 cap1 w1 h2 h3 h4 h5)
set_option maxHeartbeats 4000000 in
theorem str_any (s : ByteArray) (hs : s.size ≤ 1000000) (w : World) (h : WrIs w base F g bs) (hl : bs.length ≤ 1000000) :
    Calls Try.prog 57 #[.pointer (some ⟨g, 0, none⟩), .string s] w fun e w' => e = .returned (.pointer (some ⟨g, 0, none⟩)) ∧ (∃ F' : Nat → Prop, WrIs w' base F' g (bs ++ (num s.size ++ nb s)) ∧ ∀ k, F' k → F k ∨ w.heap.size ≤ k) ∧ Turn F w w' := by
  go_enter Try.func57, Try.ntmps57
  go_upto_region 2 with (first | (go_at_call 59; refine (num_any s.size (by omega) w h hl).mono ?_; rintro e w1 ⟨rfl, ⟨F1, hw1, hk1⟩, ht1⟩))
  have HT1 := Lib.hid ht1
  have HK1 := Lib.hid hk1
  obtain ⟨v, L, X, HV, HLX, HR, HNG, HLO, c0, c0f⟩ := hw1.opened
  have LB := Lib.hid (show L ≤ 1000020 ∧ 0 < L by have h1 := num_le s.size (by omega); have h2 := num_length s.size; rw [HLX.out.1, List.length_append]; omega)
  clear ht1 hk1 hw1
  go_wp2_with (first | (at_builtin; refine wpList_append_str rfl (.tmp 14) (.tmp 15) rfl rfl (v := v) (s := s) rfl rfl HR.out (by have := LB.out; omega) (by have := LB.out; omega) HLO.out ?_; intro g1 cap1 w6 hown1 hgr1 hat1 hlt1; have HO1 := Lib.hid hown1; have HG1 := Lib.hid hgr1; have HA1 := Lib.hid hat1; have HL1 := Lib.hid hlt1; clear hown1 hgr1 hat1 hlt1; have HD6 := Lib.hid (blk_grown HV.out.hd HG1.out HNG.out); have d0 := blk_cell HD6.out 0; have d0f := blk_frozen HD6.out 0; simp at d0))
  have HM := HV.out.more2 (cs := nb s) (Turn.refl _ _) HG1.out HO1.out (by rw [HLX.out.1, ← nb_length, ← List.length_append]) (by rw [HLX.out.2, ← u8s_append]) (HA1.out.imp id (fun e => by omega)) HL1.out
  rw [List.append_assoc] at HM
  obtain ⟨⟨F2, hF2, hk2⟩, ht2⟩ := HM
  go_ret
  refine ⟨rfl, ⟨F2, ⟨_, hF2⟩, fun k hk => ?_⟩, HT1.out.then ht2 HK1.out⟩
  rcases hk2 k hk with h1 | h1
  · exact HK1.out k h1
  · right; have := HT1.out.size; omega
end Go.Proofs.Yteggenihjhclkaa
set_option maxRecDepth 16000
namespace Go.Proofs.Yteggenihjhclkaa
open Go.RowKit Go.Lib
variable {w w' : World} {base : Nat} {g : Nat} {bs bs' : List Nat}
def WrB (w : World) (base g : Nat) (bs : List Nat) : Prop := ∃ F, WrIs w base F g bs
/-- Blocks that hold neither bytes nor a Writer are as they were. -/
def Kept2 (w w' : World) : Prop := ∀ (q : Nat) (cs : Array Value) (t : TypeId), t ≠ 5 → t ≠ 114 → w.heap[q]? = some (.cells cs t (0, 0)) → w'.heap[q]? = some (.cells cs t (0, 0))
theorem WrB.nope (h : WrB w base g bs) (ht : Turn Nope w w') : WrB w' base g bs := by
  obtain ⟨F, v, h⟩ := h
  exact ⟨F, v, h.turn ht fun k hk => hk.elim⟩
/-- The blocks: the Writer's, and its bytes'. -/
def Least (w : World) (g : Nat) (F : Nat → Prop) : Prop := ∀ k, F k → k = g ∨ ∃ cs, w.heap[k]? = some (.cells cs 5 (0, 0))
theorem WrB.least (h : WrB w base g bs) : ∃ F, WrIs w base F g bs ∧ Least w g F := by
  obtain ⟨F, v, hv⟩ := h
  refine ⟨fun k => k = g ∨ v.ownBlock = some k, ⟨v, ⟨hv.hd, hv.row, .inl rfl, fun k hk => .inr hk, ?_, ?_⟩⟩, ?_⟩
  · rintro k (rfl | hk)
    · exact blk_lt hv.hd
    · exact hv.lt k (hv.fv k hk)
  · rintro k (rfl | hk)
    · exact hv.lo _ hv.fg
    · exact hv.lo k (hv.fv k hk)
  · rintro k (rfl | hk)
    · exact .inl rfl
    · right
      rcases hv.row.2 with ⟨rfl, _⟩ | ⟨g', cap, cur, rfl, _, hh, _⟩
      · simp [Value.ownBlock] at hk
      · have : g' = k := by simpa [Value.ownBlock] using hk
        subst this
        exact ⟨cur, hh⟩
theorem mine {f : Nat} {args : Array Value} {R : Value} (h : WrB w base g bs)
    (H : ∀ F, WrIs w base F g bs → Least w g F → Calls Try.prog f args w fun e w' => e = .returned R ∧ (∃ F' : Nat → Prop, WrIs w' base F' g bs' ∧ ∀ k, F' k → F k ∨ w.heap.size ≤ k) ∧ Turn F w w') :
    Calls Try.prog f args w fun e w' => e = .returned R ∧ WrB w' base g bs' ∧ Below base w w' ∧ Kept2 w w' := by
  obtain ⟨F, hF, hL⟩ := h.least
  refine (H F hF hL).mono ?_
  rintro e w' ⟨rfl, ⟨F', hF', _⟩, ht⟩
  obtain ⟨v, hv⟩ := hF
  have hlt := blk_lt hv.hd
  refine ⟨rfl, ⟨F', hF'⟩, ht.toBelow (by have := hv.lo g hv.fg; omega) hv.lo, fun q cs t h5 h37 hq => ht.blk hq (fun hf => ?_)⟩
  rcases hL q hf with rfl | ⟨cs', hh⟩
  · rw [hv.hd] at hq
    injection hq with hq
    injection hq with _ hq _
    exact h37 hq.symm
  · rw [hh] at hq
    injection hq with hq
    injection hq with _ hq _
    exact h5 hq.symm
theorem num_mine (n : Nat) (hn : n < 18446744073709551616) (w : World) (h : WrB w base g bs) (hl : bs.length ≤ 1000000) :
    Calls Try.prog 59 #[.pointer (some ⟨g, 0, none⟩), .int .u64 (n : Int)] w fun e w' => e = .returned (.pointer (some ⟨g, 0, none⟩)) ∧ WrB w' base g (bs ++ num n) ∧ Below base w w' ∧ Kept2 w w' :=
  mine h fun _ hF _ => num_any n hn w hF hl
theorem str_mine (s : ByteArray) (hs : s.size ≤ 1000000) (w : World) (h : WrB w base g bs) (hl : bs.length ≤ 1000000) :
    Calls Try.prog 57 #[.pointer (some ⟨g, 0, none⟩), .string s] w fun e w' => e = .returned (.pointer (some ⟨g, 0, none⟩)) ∧ WrB w' base g (bs ++ (num s.size ++ nb s)) ∧ Below base w w' ∧ Kept2 w w' :=
  mine h fun _ hF _ => str_any s hs w hF hl
theorem text_mine (s : ByteArray) (w : World) (h : WrB w base g (nb s)) : Calls Try.prog 58 #[.pointer (some ⟨g, 0, none⟩)] w fun e w' => e = .returned (.string s) ∧ w' = w := by
  obtain ⟨F, h⟩ := h
  exact wtext_any s w h
/-- A Writer that was just made. -/
theorem WrB.new (w : World) (base : Nat) (hb : base ≤ w.heap.size) : WrB (w.alloc (.cells #[.slice none 0 0] 114)) base w.heap.size [] := by
  refine ⟨At w.heap.size, _, ⟨blk_new w _, ⟨rfl, .inl ⟨rfl, rfl⟩⟩, rfl, ?_, ?_, ?_⟩⟩
  · intro k hk; simp [Value.ownBlock] at hk
  · intro k hk; have : k = _ := hk; subst this; simp
  · intro k hk; have : k = _ := hk; subst this; exact hb
end Go.Proofs.Yteggenihjhclkaa
