/- What a Reader takes of what was put: numbers, texts. -/
import Derived.Test.YtlalbmgopbcplaaPut
import Derived.Test.YtlalbmgopbcplaaPrd
import Derived.Test.YtlalbmgopbcplaaSsm
set_option linter.unusedSimpArgs false
set_option maxRecDepth 16000
namespace Go.Proofs.Ytlalbmgopbcplaa
open Go.RowKit Go.Lib PLedgerMoves Go.Proofs.YtlalbmgopbcplaaW.PrintWords Go.Proofs.YtlalbmgopbcplaaW.PrintLast Go.Proofs.YtlalbmgopbcplaaW.PrintMore
theorem or7 (v d : Nat) (hv : v < 144115188075855872) (hd : d < 128) : bits .or .u64 ((v : Int) * 128) (d : Int) = ((v * 128 + d : Nat) : Int) := by
  have h : (BitVec.ofInt 64 ((v : Int) * 128) ||| BitVec.ofInt 64 (d : Int)).toNat = v * 128 + d := by
    rw [BitVec.toNat_or]
    have h1 : (BitVec.ofInt 64 ((v : Int) * 128)).toNat = v * 128 := by simp; omega
    have h2 : (BitVec.ofInt 64 (d : Int)).toNat = d := by simp; omega
    rw [h1, h2]
    have := Nat.shiftLeft_add_eq_or_of_lt (b := d) (i := 7) (by omega) v
    rw [Nat.shiftLeft_eq] at this
    exact this.symm
  show IntKind.u64.wrap (((BitVec.ofInt 64 ((v : Int) * 128) ||| BitVec.ofInt 64 (d : Int)).toNat : Nat) : Int) = _
  rw [h]
  show ((v * 128 + d : Nat) : Int) % 18446744073709551616 = _
  omega
theorem nb_extract (s : ByteArray) (a b : Nat) : nb (s.extract a b) = ((nb s).take b).drop a := by
  simp [nb, ByteArray.data_extract, List.map_take, List.map_drop, List.drop_take]
theorem nb_nil {s : ByteArray} (h : nb s = []) : s = ⟨#[]⟩ := nb_inj h
theorem take_nilS {s : ByteArray} (h : nb s = []) : wire_Reader_take.f s 0 1 = some (⟨#[]⟩, ⟨#[]⟩, 1) := by
  rw [nb_nil h]; rfl
theorem take_consS {s : ByteArray} {b : Nat} {l : List Nat} (h : nb s = b :: l) : ∃ u r, wire_Reader_take.f s 0 1 = some (⟨#[u]⟩, r, 0) ∧ u.toNat = b ∧ nb r = l := by
  have hs : s.size = l.length + 1 := by rw [← nb_length, h]; rfl
  refine ⟨UInt8.ofNat b, s.extract 1 s.size, ?_, ?_, ?_⟩
  · rw [wire_Reader_take.f, if_pos rfl, if_neg (by rw [hs]; omega), if_pos (by decide), if_pos (by rw [hs]; omega)]
    have : s.extract 0 1 = ⟨#[UInt8.ofNat b]⟩ := by
      rw [← bstr_nb (s.extract 0 1), nb_extract, h]; rfl
    show some (s.extract 0 1, _, _) = _
    rw [this]; rfl
  · have := nb_lt s b (by rw [h]; simp)
    rw [UInt8.toNat_ofNat']; exact Nat.mod_eq_of_lt this
  · rw [nb_extract, h, hs]; simp
theorem num_l0S : ∀ (l : List Nat) (s : ByteArray) (v i k : Nat), nb s = l → i + l.length < 1000000 → 3 * l.length + 3 ≤ k →
    match readNum v i l with
    | .error e => wire_Reader_Num.l0 k (v : Int) (i : Int) s 0 = some (0, ⟨#[]⟩, e)
    | .ok (n, l') => ∃ r, nb r = l' ∧ wire_Reader_Num.l0 k (v : Int) (i : Int) s 0 = some ((n : Int), r, 0) := by
  intro l
  induction l with
  | nil =>
    intro s v i k hs _ hk
    obtain ⟨k, rfl⟩ : ∃ m, k = m + 1 := ⟨k - 1, by omega⟩
    simp only [readNum, wire_Reader_Num.l0, take_nilS hs, Option.bind_some]
    rfl
  | cons b l ih =>
    intro s v i k hs hi hk
    simp only [List.length_cons] at hi hk
    obtain ⟨k, rfl⟩ : ∃ m, k = m + 3 := ⟨k - 3, by omega⟩
    obtain ⟨u, r, ht, hu, hr⟩ := take_consS hs
    have hb : b < 256 := by rw [← hu]; exact u.toNat_lt
    have hl1 : (⟨#[u]⟩ : ByteArray).toList = [u] := ByteArray.toList_eq _
    have hu8 : (u = 128) = (b = 128) := by
      rw [← hu]; apply propext; constructor
      · rintro rfl; rfl
      · intro h; exact UInt8.toNat_inj.1 h
    have hbt : bt ⟨#[u]⟩ 0 = (b : Int) := by rw [← hu]; rfl
    have J2 : wire_Reader_Num.l0 (k + 3) (v : Int) (i : Int) s 0 = wire_Reader_Num.j2 (k + 1) (v : Int) (i : Int) ⟨#[u]⟩ (decide ((i = 0 ∧ b = 128) ∨ 144115188075855872 ≤ v)) r 0 := by
      simp only [wire_Reader_Num.l0, ht, Option.bind_some, if_pos]
      by_cases h0 : i = 0
      · subst h0
        simp only [wire_Reader_Num.j1, hl1]
        by_cases h128 : b = 128
        · have : u = 128 := hu8.symm ▸ h128
          subst this
          simp [h128]
        · have : u ≠ 128 := fun e => h128 (hu8 ▸ e)
          have h2 : ([u] == ([128] : List UInt8)) = false := by simp [this]
          simp [h2, h128]
          congr 1
          simp; omega
      · have : ¬ ((i : Int) = 0) := by omega
        simp only [wire_Reader_Num.j1, this, if_false]
        simp [h0]
        congr 1
        simp; omega
    rw [J2, readNum]
    by_cases hc : (i = 0 ∧ b = 128) ∨ 144115188075855872 ≤ v
    · rw [if_pos hc, decide_eq_true hc]
      simp only [wire_Reader_Num.j2, if_true]
      rfl
    · have hv : v < 144115188075855872 := by omega
      have ha : bits .and .u8 (b : Int) 127 = ((b % 128 : Nat) : Int) := by
        have := and127 b
        rwa [show IntKind.u8.wrap (b : Int) = (b : Int) by show (b : Int) % 256 = _; omega] at this
      have hval : Go.bits .or .u64 (IntKind.u64.wrap ((v : Int) * 128)) (IntKind.u64.wrap (Go.bits .and .u8 (bt ⟨#[u]⟩ 0) 127)) = ((v * 128 + b % 128 : Nat) : Int) := by
        rw [hbt, ha, show IntKind.u64.wrap ((v : Int) * 128) = (v : Int) * 128 by show _ % (18446744073709551616 : Int) = _; omega, show IntKind.u64.wrap ((b % 128 : Nat) : Int) = ((b % 128 : Nat) : Int) by show _ % (18446744073709551616 : Int) = _; omega]
        exact or7 v (b % 128) hv (by omega)
      rw [if_neg hc, decide_eq_false hc]
      have J3 : wire_Reader_Num.j2 (k + 1) (v : Int) (i : Int) ⟨#[u]⟩ false r 0 = if b < 128 then some (((v * 128 + b % 128 : Nat) : Int), r, 0) else wire_Reader_Num.l0 k ((v * 128 + b % 128 : Nat) : Int) ((i + 1 : Nat) : Int) r 0 := by
        have hw : wrap64 ((i : Int) + 1) = ((i + 1 : Nat) : Int) := by rw [IntWalk.wrap64_in _ ⟨by omega, by omega⟩]; omega
        simp only [wire_Reader_Num.j2]
        rw [if_neg (by simp), if_pos (by show (0 : Int) < ((1 : Nat) : Int); decide), hval, hbt, hw]
        by_cases hb1 : b < 128
        · rw [if_pos (by omega), if_pos hb1]
        · rw [if_neg (by omega), if_neg hb1]
      rw [J3]
      by_cases hb1 : b < 128
      · rw [if_pos hb1, if_pos hb1]
        refine ⟨r, hr, ?_⟩
        rw [show b % 128 = b by omega]
      · rw [if_neg hb1, if_neg hb1]
        exact ih r (v * 128 + b % 128) (i + 1) k hr (by omega) (by omega)

theorem numS (n : Nat) (hn : n < 18446744073709551616) (s : ByteArray) (q : List Nat) (hs : nb s = num n ++ q) (hl : s.size ≤ 600) : ∃ r, wire_Reader_Num.f 2000 s 0 = some ((n : Int), r, 0) ∧ nb r = q := by
  have h := num_l0S (nb s) s 0 0 2000 rfl (by rw [nb_length]; omega) (by rw [nb_length]; omega)
  rw [hs, readNum_num n hn q] at h
  obtain ⟨r, hr, hf⟩ := h
  exact ⟨r, hf, hr⟩
theorem takeS (p q : List Nat) (s : ByteArray) (hs : nb s = p ++ q) : ∃ r, wire_Reader_take.f s 0 (p.length : Int) = some (bstr p, r, 0) ∧ nb r = q := by
  have hz : s.size = p.length + q.length := by rw [← nb_length, hs, List.length_append]
  refine ⟨s.extract p.length s.size, ?_, ?_⟩
  · rw [wire_Reader_take.f, if_pos rfl, if_neg (by rw [hz]; omega), if_pos (by omega), if_pos (by rw [hz]; omega)]
    have : s.extract 0 p.length = bstr p := by
      rw [← bstr_nb (s.extract 0 p.length), nb_extract, hs]; simp
    simp only [Int.toNat_natCast]
    rw [this]
  · rw [nb_extract, hs, List.take_of_length_le (by rw [List.length_append]; omega), List.drop_left' rfl]
theorem uptoS (n : Nat) (m : Int) (hn : (n : Int) ≤ m) (hm : m ≤ 4398046511104) (s : ByteArray) (q : List Nat) (hs : nb s = num n ++ q) (hl : s.size ≤ 600) : ∃ r, wire_Reader_Upto.f 2000 s 0 m = some ((n : Int), r, 0) ∧ nb r = q := by
  obtain ⟨r, h1, h2⟩ := numS n (by omega) s q hs hl
  refine ⟨r, ?_, h2⟩
  rw [wire_Reader_Upto.f, h1]
  simp only [Option.bind_some]
  have hx : IntKind.u64.wrap (mx m 0) = m := by
    have : mx m 0 = m := by unfold mx; omega
    rw [this]
    show m % 18446744073709551616 = _; omega
  rw [hx, if_neg (by omega), IntWalk.wrap64_in _ ⟨by omega, by omega⟩]
theorem strS (c : ByteArray) (m : Int) (hn : (c.size : Int) ≤ m) (hm : m ≤ 4398046511104) (s : ByteArray) (q : List Nat) (hs : nb s = num c.size ++ (nb c ++ q)) (hl : s.size ≤ 600) : ∃ r, wire_Reader_Str.f 2000 s 0 m = some (c, r, 0) ∧ nb r = q := by
  obtain ⟨r, h1, h2⟩ := uptoS c.size m hn hm s _ hs hl
  obtain ⟨r2, h3, h4⟩ := takeS (nb c) q r h2
  rw [nb_length, bstr_nb] at h3
  refine ⟨r2, ?_, h4⟩
  rw [wire_Reader_Str.f, h1]
  simp only [Option.bind_some]
  rw [h3]
  rfl
end Go.Proofs.Ytlalbmgopbcplaa
