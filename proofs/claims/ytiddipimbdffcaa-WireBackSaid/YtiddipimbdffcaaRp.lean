/- What the printed functions answer, plain. -/
import Derived.Test.YtiddipimbdffcaaRd
import Derived.Test.YtiddipimbdffcaaPWireOnex1
namespace Go.Proofs.Ytiddipimbdffcaa
open Go.RowKit Go.Lib PWireOne Go.Proofs.YtiddipimbdffcaaW.PrintWords Go.Proofs.YtiddipimbdffcaaW.PrintLast Go.Proofs.YtiddipimbdffcaaW.PrintMore
theorem or7 (v d : Nat) (hv : v < 144115188075855872) (hd : d < 128) : bits .or .u64 ((v : Int) * 128) (d : Int) = ((v * 128 + d : Nat) : Int) := by
  have h : (BitVec.ofInt 64 ((v : Int) * 128) ||| BitVec.ofInt 64 (d : Int)).toNat = v * 128 + d := by
    rw [BitVec.toNat_or]
    have h1 : (BitVec.ofInt 64 ((v : Int) * 128)).toNat = v * 128 := by simp; omega
    have h2 : (BitVec.ofInt 64 (d : Int)).toNat = d := by simp; omega
    rw [h1, h2]
    have := Nat.shiftLeft_add_eq_or_of_lt (b := d) (i := 7) (by omega) v
    rw [Nat.shiftLeft_eq] at this
    exact this.symm
  show IntKind.u64.wrap (((BitVec.ofInt 64 ((v : Int) * 128) ||| BitVec.ofInt 64 (d : Int)).toNat : Nat) : Int) = _
  rw [h]
  show ((v * 128 + d : Nat) : Int) % 18446744073709551616 = _
  omega
theorem or1 (n : Nat) (hn : n < 9223372036854775808) : bits .or .u64 ((n : Int) * 2) 1 = ((2 * n + 1 : Nat) : Int) := by
  have h : (BitVec.ofInt 64 ((n : Int) * 2) ||| BitVec.ofInt 64 1).toNat = 2 * n + 1 := by
    rw [BitVec.toNat_or]
    have h1 : (BitVec.ofInt 64 ((n : Int) * 2)).toNat = n * 2 := by simp; omega
    have h2 : (BitVec.ofInt 64 1).toNat = 1 := by decide
    rw [h1, h2]
    have := Nat.shiftLeft_add_eq_or_of_lt (b := 1) (i := 1) (by omega) n
    rw [Nat.shiftLeft_eq] at this
    rw [show n * 2 = n * 2 ^ 1 from rfl, ← this]
    omega
  show IntKind.u64.wrap (((BitVec.ofInt 64 ((n : Int) * 2) ||| BitVec.ofInt 64 1).toNat : Nat) : Int) = _
  rw [h]
  show ((2 * n + 1 : Nat) : Int) % 18446744073709551616 = _
  omega
theorem nb_extract (s : ByteArray) (a b : Nat) : nb (s.extract a b) = ((nb s).take b).drop a := by
  simp [nb, ByteArray.data_extract, List.map_take, List.map_drop, List.drop_take]
theorem nb_nil {s : ByteArray} (h : nb s = []) : s = ⟨#[]⟩ := nb_inj h
theorem take_nil {s : ByteArray} (h : nb s = []) : wire_Reader_take.f s 0 1 = some (⟨#[]⟩, ⟨#[]⟩, 1) := by
  rw [nb_nil h]; rfl
theorem take_cons {s : ByteArray} {b : Nat} {l : List Nat} (h : nb s = b :: l) : ∃ u r, wire_Reader_take.f s 0 1 = some (⟨#[u]⟩, r, 0) ∧ u.toNat = b ∧ nb r = l := by
  have hs : s.size = l.length + 1 := by rw [← nb_length, h]; rfl
  refine ⟨UInt8.ofNat b, s.extract 1 s.size, ?_, ?_, ?_⟩
  · rw [wire_Reader_take.f, if_pos rfl, if_neg (by rw [hs]; omega), if_pos (by decide), if_pos (by rw [hs]; omega)]
    have : s.extract 0 1 = ⟨#[UInt8.ofNat b]⟩ := by
      rw [← bstr_nb (s.extract 0 1), nb_extract, h]; rfl
    show some (s.extract 0 1, _, _) = _
    rw [this]; rfl
  · have := nb_lt s b (by rw [h]; simp)
    rw [UInt8.toNat_ofNat']; exact Nat.mod_eq_of_lt this
  · rw [nb_extract, h, hs]; simp
theorem num_l0 : ∀ (l : List Nat) (s : ByteArray) (v i k : Nat), nb s = l → i + l.length < 1000000 → 3 * l.length + 3 ≤ k →
    match readNum v i l with
    | .error e => wire_Reader_Num.l0 k (v : Int) (i : Int) s 0 = some (0, ⟨#[]⟩, e)
    | .ok (n, l') => ∃ r, nb r = l' ∧ wire_Reader_Num.l0 k (v : Int) (i : Int) s 0 = some ((n : Int), r, 0) := by
  intro l
  induction l with
  | nil =>
    intro s v i k hs _ hk
    obtain ⟨k, rfl⟩ : ∃ m, k = m + 1 := ⟨k - 1, by omega⟩
    simp only [readNum, wire_Reader_Num.l0, take_nil hs, Option.bind_some]
    rfl
  | cons b l ih =>
    intro s v i k hs hi hk
    simp only [List.length_cons] at hi hk
    obtain ⟨k, rfl⟩ : ∃ m, k = m + 3 := ⟨k - 3, by omega⟩
    obtain ⟨u, r, ht, hu, hr⟩ := take_cons hs
    have hb : b < 256 := by rw [← hu]; exact u.toNat_lt
    have hl1 : (⟨#[u]⟩ : ByteArray).toList = [u] := ByteArray.toList_eq _
    have hu8 : (u = 128) = (b = 128) := by
      rw [← hu]; apply propext; constructor
      · rintro rfl; rfl
      · intro h; exact UInt8.toNat_inj.1 h
    have hbt : bt ⟨#[u]⟩ 0 = (b : Int) := by rw [← hu]; rfl
    have J2 : wire_Reader_Num.l0 (k + 3) (v : Int) (i : Int) s 0 = wire_Reader_Num.j2 (k + 1) (v : Int) (i : Int) ⟨#[u]⟩ (decide ((i = 0 ∧ b = 128) ∨ 144115188075855872 ≤ v)) r 0 := by
      simp only [wire_Reader_Num.l0, ht, Option.bind_some, if_pos]
      by_cases h0 : i = 0
      · subst h0
        simp only [wire_Reader_Num.j1, hl1]
        by_cases h128 : b = 128
        · have : u = 128 := hu8.symm ▸ h128
          subst this
          simp [h128]
        · have : u ≠ 128 := fun e => h128 (hu8 ▸ e)
          have h2 : ([u] == ([128] : List UInt8)) = false := by simp [this]
          simp [h2, h128]
          congr 1
          simp; omega
      · have : ¬ ((i : Int) = 0) := by omega
        simp only [wire_Reader_Num.j1, this, if_false]
        simp [h0]
        congr 1
        simp; omega
    rw [J2, readNum]
    by_cases hc : (i = 0 ∧ b = 128) ∨ 144115188075855872 ≤ v
    · rw [if_pos hc, decide_eq_true hc]
      simp only [wire_Reader_Num.j2, if_true]
      rfl
    · have hv : v < 144115188075855872 := by omega
      have ha : bits .and .u8 (b : Int) 127 = ((b % 128 : Nat) : Int) := by
        have := and127 b
        rwa [show IntKind.u8.wrap (b : Int) = (b : Int) by show (b : Int) % 256 = _; omega] at this
      have hval : Go.bits .or .u64 (IntKind.u64.wrap ((v : Int) * 128)) (IntKind.u64.wrap (Go.bits .and .u8 (bt ⟨#[u]⟩ 0) 127)) = ((v * 128 + b % 128 : Nat) : Int) := by
        rw [hbt, ha, show IntKind.u64.wrap ((v : Int) * 128) = (v : Int) * 128 by show _ % (18446744073709551616 : Int) = _; omega, show IntKind.u64.wrap ((b % 128 : Nat) : Int) = ((b % 128 : Nat) : Int) by show _ % (18446744073709551616 : Int) = _; omega]
        exact or7 v (b % 128) hv (by omega)
      rw [if_neg hc, decide_eq_false hc]
      have J3 : wire_Reader_Num.j2 (k + 1) (v : Int) (i : Int) ⟨#[u]⟩ false r 0 = if b < 128 then some (((v * 128 + b % 128 : Nat) : Int), r, 0) else wire_Reader_Num.l0 k ((v * 128 + b % 128 : Nat) : Int) ((i + 1 : Nat) : Int) r 0 := by
        have hw : wrap64 ((i : Int) + 1) = ((i + 1 : Nat) : Int) := by rw [IntWalk.wrap64_in _ ⟨by omega, by omega⟩]; omega
        simp only [wire_Reader_Num.j2]
        rw [if_neg (by simp), if_pos (by show (0 : Int) < ((1 : Nat) : Int); decide), hval, hbt, hw]
        by_cases hb1 : b < 128
        · rw [if_pos (by omega), if_pos hb1]
        · rw [if_neg (by omega), if_neg hb1]
      rw [J3]
      by_cases hb1 : b < 128
      · rw [if_pos hb1, if_pos hb1]
        refine ⟨r, hr, ?_⟩
        rw [show b % 128 = b by omega]
      · rw [if_neg hb1, if_neg hb1]
        exact ih r (v * 128 + b % 128) (i + 1) k hr (by omega) (by omega)
theorem tmod_nat (a b : Nat) : Int.tmod (a : Int) (b : Int) = ((a % b : Nat) : Int) := by
  rw [Int.tmod_eq_emod_of_nonneg (by omega)]; simp
theorem tdiv_nat (a b : Nat) : Int.tdiv (a : Int) (b : Int) = ((a / b : Nat) : Int) := by
  rw [Int.tdiv_eq_ediv_of_nonneg (by omega)]; simp
theorem wrapu_nat (a : Nat) (h : a < 18446744073709551616) : IntKind.u64.wrap (a : Int) = (a : Int) := by
  show (a : Int) % 18446744073709551616 = _; omega
theorem strOfNums_one (a : Nat) (h : a < 256) : nb (strOfNums [(a : Int)]) = [a] := by
  have : strOfNums [(a : Int)] = bstr [a] := by simp [strOfNums, bstr]
  rw [this, nb_bstr]
  simpa using h
theorem ref_l0 : ∀ (i : Nat) (x : Nat) (s : ByteArray) (k : Nat), i ≤ 9 → x < 128 ^ i → s.size ≤ 10 - i → i < k → ∃ r, hindsightref02_Num.l0 k (x : Int) s ((9 - i : Nat) : Int) = some r ∧ nb r = hi x ++ nb s := by
  intro i
  induction i with
  | zero =>
    intro x s k _ hx _ hk
    obtain ⟨k, rfl⟩ : ∃ m, k = m + 1 := ⟨k - 1, by omega⟩
    have : x = 0 := by simpa using hx
    subst this
    refine ⟨s, ?_, by rw [hi_zero]; rfl⟩
    simp [hindsightref02_Num.l0]
  | succ i ih =>
    intro x s k hi hx hs hk
    obtain ⟨k, rfl⟩ : ∃ m, k = m + 1 := ⟨k - 1, by omega⟩
    have h63 : x < 18446744073709551616 := Nat.lt_of_lt_of_le hx (Nat.le_trans (Nat.pow_le_pow_right (by decide) hi) (by decide))
    have e4 : ((9 - (i + 1) : Nat) : Int) < 9 := by omega
    by_cases h0 : x = 0
    · subst h0
      refine ⟨s, ?_, by rw [hi_zero]; rfl⟩
      simp [hindsightref02_Num.l0]
    · have hb : 128 + x % 128 < 256 := by omega
      obtain ⟨r, h1, h2⟩ := ih (x / 128) (strOfNums [((128 + x % 128 : Nat) : Int)] ++ s) k (by omega) (by rw [Nat.pow_succ] at hx; omega) (by rw [ByteArray.size_append, strOfNums_size]; simp; omega) (by omega)
      refine ⟨r, ?_, ?_⟩
      · have ev : (IntKind.u64.wrap (128 + (Int.tmod (x : Int) 128))) % 256 = ((128 + x % 128 : Nat) : Int) := by
          rw [show Int.tmod (x : Int) 128 = ((x % 128 : Nat) : Int) from tmod_nat x 128, show (128 : Int) + ((x % 128 : Nat) : Int) = ((128 + x % 128 : Nat) : Int) by omega, wrapu_nat _ (by omega)]
          omega
        have eq : IntKind.u64.wrap (Int.tdiv (x : Int) 128) = ((x / 128 : Nat) : Int) := by
          rw [show Int.tdiv (x : Int) 128 = ((x / 128 : Nat) : Int) from tdiv_nat x 128, wrapu_nat _ (by omega)]
        have ew : wrap64 (((9 - (i + 1) : Nat) : Int) + 1) = ((9 - i : Nat) : Int) := by rw [IntWalk.wrap64_in _ ⟨by omega, by omega⟩]; omega
        simp only [hindsightref02_Num.l0, ev, eq, ew, Option.bind_some]
        rw [if_pos e4, if_pos (by omega), if_pos (by rw [strOfNums_size]; simp; omega)]
        exact h1
      · rw [h2, hi_pos h0, nb_append, strOfNums_one _ hb]
        simp
theorem ref_num (n : Nat) (hn : n < 18446744073709551616) : ∃ r, hindsightref02_Num.f 11 (n : Int) = some r ∧ nb r = num n := by
  obtain ⟨r, h1, h2⟩ := ref_l0 9 (n / 128) (strOfNums [((n % 128 : Nat) : Int)]) 11 (by decide) (by omega) (by rw [strOfNums_size]; simp) (by decide)
  refine ⟨r, ?_, ?_⟩
  · rw [hindsightref02_Num.f, show Int.tmod (n : Int) 128 = ((n % 128 : Nat) : Int) from tmod_nat n 128, show Int.tdiv (n : Int) 128 = ((n / 128 : Nat) : Int) from tdiv_nat n 128, wrapu_nat _ (by omega), show ((n % 128 : Nat) : Int) % 256 = ((n % 128 : Nat) : Int) by omega]
    exact h1
  · rw [h2, strOfNums_one _ (by omega)]; rfl
end Go.Proofs.Ytiddipimbdffcaa
