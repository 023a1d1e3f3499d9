/- What the printed functions answer (their contracts as the printer laid them, one function left out). What a Reader takes of what was put: numbers, texts. -/
import Derived.Test.YteggenihjhclkaaPx0
import Derived.Test.YteggenihjhclkaaPx8
import Derived.Test.YteggenihjhclkaaWire
set_option maxRecDepth 16000
namespace Go.Proofs.Yteggenihjhclkaa.PWire
open Go.RowKit Go.Proofs.YteggenihjhclkaaW.PrintWords Go.Proofs.YteggenihjhclkaaW.PrintLast Go.Proofs.YteggenihjhclkaaW.PrintMore
attribute [local go_sem] max2_int min2_int max_two min_two max_three min_three max_four min_four   -- for this text's walks alone
set_option linter.unusedVariables false
set_option linter.unusedSimpArgs false

/-! ### wire_Reader_Str: function 28 -/
def wire_Reader_Str.f (k : Nat) (s0_0 : ByteArray) (s0_1 : Int) (a1 : Int) : Option (ByteArray × ByteArray × Int) := (wire_Reader_Upto.f k s0_0 s0_1 a1).bind fun bt241 => ((wire_Reader_take.f bt241.2.1 bt241.2.2 bt241.1).bind fun bt244 => (some (bt244.1, bt244.2.1, bt244.2.2)))
theorem wire_Reader_Str.mono : ∀ a0 a1 a2 k, LeO (wire_Reader_Str.f k a0 a1 a2) (wire_Reader_Str.f (k + 1) a0 a1 a2) := by
  intro a0 a1 a2 k
  unfold wire_Reader_Str.f
  repeat' first
      | (with_reducible exact wire_Reader_Upto.mono _ _ _ _)
      | (with_reducible exact LeO.refl _)
      | (with_reducible exact LeO.none _)
      | (with_reducible refine LeO.ite ?_ ?_)
      | (with_reducible refine LeO.bind ?_ (fun _ => ?_))
      | exact wire_Reader_Upto.mono _ _ _ _
      | exact LeO.none _
      | refine LeO.ite ?_ ?_
      | refine LeO.bind ?_ (fun _ => ?_)
set_option maxHeartbeats 8000000 in
set_option maxRecDepth 100000 in
theorem wire_Reader_Str.calls (k : Nat) (g : Nat) (s0_0 : ByteArray) (s0_1 : Int) (a1 : Int) (r1 : ByteArray) (r2 : ByteArray) (r3 : Int) (w0 w : World) (hI : IsS134 w0 w g s0_0 s0_1) (hB : Below w0.heap.size w0 w) (h : wire_Reader_Str.f k s0_0 s0_1 a1 = some (r1, r2, r3)) :
    Calls Try.prog 69 #[.pointer (some ⟨g, 0, none⟩), .int .i64 a1] w fun e w' => e = .returned (.string r1) ∧ IsS134 w0 w' g r2 r3 ∧ Below w0.heap.size w0 w' ∧ KeepBut w w' g none := by
  have HI0 := Aside0.mk hI
  have HK := Aside0.mk (KeepBut.refl w g none)
  have HL := Aside0.mk hB.size
  clear hI
  have HW0 := Aside0.mk hB.size
  have HB := Aside0.mk hB
  clear hB
  have H : ((wire_Reader_Upto.f k s0_0 s0_1 a1).bind fun bt241 => ((wire_Reader_take.f bt241.2.1 bt241.2.2 bt241.1).bind fun bt244 => (some (bt244.1, bt244.2.1, bt244.2.2)))) = some (r1, r2, r3) := h
  clear h
  replace H := Option.bind_eq_some_iff.mp H
  obtain ⟨⟨t241, t242, t243⟩, A30, H⟩ := H
  replace H : ((wire_Reader_take.f t242 t243 t241).bind fun bt244 => (some (bt244.1, bt244.2.1, bt244.2.2))) = some (r1, r2, r3) := H
  have A3 := Aside0.mk A30
  clear A30
  replace H := Option.bind_eq_some_iff.mp H
  obtain ⟨⟨t244, t245, t246⟩, A40, H⟩ := H
  replace H : (some (t244, t245, t246)) = some (r1, r2, r3) := H
  have A4 := Aside0.mk A40
  clear A40
  simp only [Option.some.injEq, Prod.mk.injEq] at H
  obtain ⟨rfl, rfl, rfl⟩ := H
  go_enter Try.func69, Try.ntmps69
  go_wp2_with (first | ((with_reducible refine gate_callee (f := 71) rfl ?_); refine goesL_ (some 8) rfl rfl Try.func71 (by kernel_rfl) rfl #[.pointer (some ⟨g, 0, none⟩), .int .i64 a1] rfl (by (try simp only [List.map_toArray, List.map_cons, List.map_nil]); first | done | rfl | (simp only [List.length_drop, List.length_take]; rfl)) ?_; (with_reducible refine (wire_Reader_Upto.calls k g s0_0 s0_1 a1 t241 t242 t243 w0 _ ?side1 ?side2 A3.out).mono ?_); (case side1 => repeat (first | (with_reducible first | exact HI0.out | apply IsS134.alloc | apply IsS134.drewN | apply IsS134.drew | apply IsS134.set_0 | apply IsS134.set_1) | exact HI0.out)); (case side2 => repeat (first | (with_reducible first | exact HB.out | apply below_alloc | apply pw_below_drewN | apply below_drew1 | refine below_set ?_ (IsS134.ge HI0.out)) | exact HB.out)); rintro e w5 ⟨rfl, hi, hb, hk⟩; refine ⟨_, rfl, ?_⟩; have n0_ := Aside0.mk (KeepBut.trans (by repeat (first | (with_reducible first | exact HK.out | apply KeepBut.set_ | apply keep_drewN | apply keep_drew | apply keep_alloc) | exact HK.out)) hk (.inl rfl)); have n1_ := Aside0.mk (hb); have n2_ := Aside0.mk (hi); clear HK; clear HB; clear HI0; have HK := n0_; have HB := n1_; have HI0 := n2_; clear n0_ n1_ n2_; (try clear hb); (try clear hb2); (try clear hk); (try clear hi)) | ((with_reducible refine gate_callee (f := 74) rfl ?_); refine goesL_ (some 9) rfl rfl Try.func74 (by kernel_rfl) rfl #[.pointer (some ⟨g, 0, none⟩), .int .i64 t241] rfl (by (try simp only [List.map_toArray, List.map_cons, List.map_nil]); first | done | rfl | (simp only [List.length_drop, List.length_take]; rfl)) ?_; (with_reducible refine (wire_Reader_take.calls g t242 t243 t241 t244 t245 t246 w0 _ ?side1 ?side2 A4.out).mono ?_); (case side1 => repeat (first | (with_reducible first | exact HI0.out | apply IsS134.alloc | apply IsS134.drewN | apply IsS134.drew | apply IsS134.set_0 | apply IsS134.set_1) | exact HI0.out)); (case side2 => repeat (first | (with_reducible first | exact HB.out | apply below_alloc | apply pw_below_drewN | apply below_drew1 | refine below_set ?_ (IsS134.ge HI0.out)) | exact HB.out)); rintro e w6 ⟨rfl, hi, hb, hk⟩; refine ⟨_, rfl, ?_⟩; have n0_ := Aside0.mk (KeepBut.trans (by repeat (first | (with_reducible first | exact HK.out | apply KeepBut.set_ | apply keep_drewN | apply keep_drew | apply keep_alloc) | exact HK.out)) hk (.inl rfl)); have n1_ := Aside0.mk (hb); have n2_ := Aside0.mk (hi); clear HK; clear HB; clear HI0; have HK := n0_; have HB := n1_; have HI0 := n2_; clear n0_ n1_ n2_; (try clear hb); (try clear hb2); (try clear hk); (try clear hi)))
  go_ret
  exact ⟨by first | rfl | (simp [errW_none, errW_some] <;> rfl) | (simp [*, errW_none, errW_some] <;> rfl), by repeat (first | (with_reducible first | exact HI0.out | apply IsS134.alloc | apply IsS134.drewN | apply IsS134.drew | apply IsS134.set_0 | apply IsS134.set_1) | exact HI0.out), by repeat (first | (with_reducible first | exact HB.out | apply below_alloc | apply pw_below_drewN | apply below_drew1 | refine below_set ?_ (IsS134.ge HI0.out)) | exact HB.out), by repeat (first | (with_reducible first | exact HK.out | apply KeepBut.set_ | apply keep_drewN | apply keep_drew | apply keep_alloc) | exact HK.out)⟩

/-! ### wire_Reader_End: function 30 -/
def wire_Reader_End.f (s0_0 : ByteArray) (s0_1 : Int) : Option (Int × ByteArray × Int) := if s0_0.toList = ([] : List UInt8) then (some (s0_1, s0_0, s0_1)) else ((wire_Reader_Fail.f s0_0 s0_1 2).bind fun bt247 => (some (bt247.2, bt247.1, bt247.2)))
set_option maxHeartbeats 8000000 in
set_option maxRecDepth 100000 in
theorem wire_Reader_End.calls (g : Nat) (s0_0 : ByteArray) (s0_1 : Int) (r1 : Int) (r2 : ByteArray) (r3 : Int) (w0 w : World) (hI : IsS134 w0 w g s0_0 s0_1) (hB : Below w0.heap.size w0 w) (h : wire_Reader_End.f s0_0 s0_1 = some (r1, r2, r3)) :
    Calls Try.prog 70 #[.pointer (some ⟨g, 0, none⟩)] w fun e w' => e = .returned (.int .i64 r1) ∧ IsS134 w0 w' g r2 r3 ∧ Below w0.heap.size w0 w' ∧ KeepBut w w' g none := by
  have HI0 := Aside0.mk hI
  have HK := Aside0.mk (KeepBut.refl w g none)
  have HL := Aside0.mk hB.size
  clear hI
  have HW0 := Aside0.mk hB.size
  have HB := Aside0.mk hB
  clear hB
  have H : (if s0_0.toList = ([] : List UInt8) then (some (s0_1, s0_0, s0_1)) else ((wire_Reader_Fail.f s0_0 s0_1 2).bind fun bt247 => (some (bt247.2, bt247.1, bt247.2)))) = some (r1, r2, r3) := h
  clear h
  by_cases c2 : s0_0.toList = ([] : List UInt8)
  · rw [if_pos c2] at H
    have c2b0 : (s0_0.toList == ([] : List UInt8)) = true := beq_iff_eq.mpr c2
    have c2b1 : (s0_0.toList != ([] : List UInt8)) = false := bne_eq_false_iff_eq.mpr c2
    clear c2
    simp only [Option.some.injEq, Prod.mk.injEq] at H
    obtain ⟨rfl, rfl, rfl⟩ := H
    obtain ⟨HGz3, hgz3⟩ := HI0.out
    have hcz3_0 := cellS68_0 HGz3
    have hcz3_1 := cellS68_1 HGz3
    have hfz3_0 := blk_frozen HGz3 0
    have hfz3_1 := blk_frozen HGz3 1
    clear HGz3 hgz3
    go_enter Try.func70, Try.ntmps70
    go_wp2
    go_ret
    exact ⟨by first | rfl | (simp [errW_none, errW_some] <;> rfl) | (simp [*, errW_none, errW_some] <;> rfl), by repeat (first | (with_reducible first | exact HI0.out | apply IsS134.alloc | apply IsS134.drewN | apply IsS134.drew | apply IsS134.set_0 | apply IsS134.set_1) | exact HI0.out), by repeat (first | (with_reducible first | exact HB.out | apply below_alloc | apply pw_below_drewN | apply below_drew1 | refine below_set ?_ (IsS134.ge HI0.out)) | exact HB.out), by repeat (first | (with_reducible first | exact HK.out | apply KeepBut.set_ | apply keep_drewN | apply keep_drew | apply keep_alloc) | exact HK.out)⟩
  · rw [if_neg c2] at H
    have c2b0 : (s0_0.toList == ([] : List UInt8)) = false := beq_eq_false_iff_ne.mpr c2
    have c2b1 : (s0_0.toList != ([] : List UInt8)) = true := bne_iff_ne.mpr c2
    replace H := Option.bind_eq_some_iff.mp H
    obtain ⟨⟨t247, t248⟩, A40, H⟩ := H
    replace H : (some (t248, t247, t248)) = some (r1, r2, r3) := H
    have A4 := Aside0.mk A40
    clear A40
    simp only [Option.some.injEq, Prod.mk.injEq] at H
    obtain ⟨rfl, rfl, rfl⟩ := H
    obtain ⟨HGz5, hgz5⟩ := HI0.out
    have hcz5_0 := cellS68_0 HGz5
    have hcz5_1 := cellS68_1 HGz5
    have hfz5_0 := blk_frozen HGz5 0
    have hfz5_1 := blk_frozen HGz5 1
    clear HGz5 hgz5
    go_enter Try.func70, Try.ntmps70
    go_wp2_with (first | ((with_reducible refine gate_callee (f := 73) rfl ?_); refine goesL_ (some 9) rfl rfl Try.func73 (by kernel_rfl) rfl #[.pointer (some ⟨g, 0, none⟩), .int .i64 2] rfl (by (try simp only [List.map_toArray, List.map_cons, List.map_nil]); first | done | rfl | (simp only [List.length_drop, List.length_take]; rfl)) ?_; (with_reducible refine (wire_Reader_Fail.calls g s0_0 s0_1 2 t247 t248 w0 _ ?side1 ?side2 A4.out).mono ?_); (case side1 => repeat (first | (with_reducible first | exact HI0.out | apply IsS134.alloc | apply IsS134.drewN | apply IsS134.drew | apply IsS134.set_0 | apply IsS134.set_1) | exact HI0.out)); (case side2 => repeat (first | (with_reducible first | exact HB.out | apply below_alloc | apply pw_below_drewN | apply below_drew1 | refine below_set ?_ (IsS134.ge HI0.out)) | exact HB.out)); rintro e w6 ⟨rfl, hi, hb, hk⟩; refine ⟨_, rfl, ?_⟩; have n0_ := Aside0.mk (KeepBut.trans (by repeat (first | (with_reducible first | exact HK.out | apply KeepBut.set_ | apply keep_drewN | apply keep_drew | apply keep_alloc) | exact HK.out)) hk (.inl rfl)); have n1_ := Aside0.mk (hb); have n2_ := Aside0.mk (hi); clear HK; clear HB; clear HI0; have HK := n0_; have HB := n1_; have HI0 := n2_; clear n0_ n1_ n2_; (try clear hb); (try clear hb2); (try clear hk); (try clear hi); obtain ⟨HGz7, hgz7⟩ := HI0.out; have hcz7_0 := cellS68_0 HGz7; have hcz7_1 := cellS68_1 HGz7; have hfz7_0 := blk_frozen HGz7 0; have hfz7_1 := blk_frozen HGz7 1; clear HGz7 hgz7))
    go_ret
    exact ⟨by first | rfl | (simp [errW_none, errW_some] <;> rfl) | (simp [*, errW_none, errW_some] <;> rfl), by repeat (first | (with_reducible first | exact HI0.out | apply IsS134.alloc | apply IsS134.drewN | apply IsS134.drew | apply IsS134.set_0 | apply IsS134.set_1) | exact HI0.out), by repeat (first | (with_reducible first | exact HB.out | apply below_alloc | apply pw_below_drewN | apply below_drew1 | refine below_set ?_ (IsS134.ge HI0.out)) | exact HB.out), by repeat (first | (with_reducible first | exact HK.out | apply KeepBut.set_ | apply keep_drewN | apply keep_drew | apply keep_alloc) | exact HK.out)⟩

end Go.Proofs.Yteggenihjhclkaa.PWire
set_option linter.unusedSimpArgs false
set_option maxRecDepth 16000
namespace Go.Proofs.Yteggenihjhclkaa
open Go.RowKit Go.Lib PWire Go.Proofs.YteggenihjhclkaaW.PrintWords Go.Proofs.YteggenihjhclkaaW.PrintLast Go.Proofs.YteggenihjhclkaaW.PrintMore
theorem or7 (v d : Nat) (hv : v < 144115188075855872) (hd : d < 128) : bits .or .u64 ((v : Int) * 128) (d : Int) = ((v * 128 + d : Nat) : Int) := by
  have h : (BitVec.ofInt 64 ((v : Int) * 128) ||| BitVec.ofInt 64 (d : Int)).toNat = v * 128 + d := by
    rw [BitVec.toNat_or]
    have h1 : (BitVec.ofInt 64 ((v : Int) * 128)).toNat = v * 128 := by simp; omega
    have h2 : (BitVec.ofInt 64 (d : Int)).toNat = d := by simp; omega
    rw [h1, h2]
    have := Nat.shiftLeft_add_eq_or_of_lt (b := d) (i := 7) (by omega) v
    rw [Nat.shiftLeft_eq] at this
    exact this.symm
  show IntKind.u64.wrap (((BitVec.ofInt 64 ((v : Int) * 128) ||| BitVec.ofInt 64 (d : Int)).toNat : Nat) : Int) = _
  rw [h]
  show ((v * 128 + d : Nat) : Int) % 18446744073709551616 = _
  omega
theorem nb_extract (s : ByteArray) (a b : Nat) : nb (s.extract a b) = ((nb s).take b).drop a := by
  simp [nb, ByteArray.data_extract, List.map_take, List.map_drop, List.drop_take]
theorem nb_nil {s : ByteArray} (h : nb s = []) : s = ⟨#[]⟩ := nb_inj h
theorem take_nilS {s : ByteArray} (h : nb s = []) : wire_Reader_take.f s 0 1 = some (⟨#[]⟩, ⟨#[]⟩, 1) := by
  rw [nb_nil h]; rfl
theorem take_consS {s : ByteArray} {b : Nat} {l : List Nat} (h : nb s = b :: l) : ∃ u r, wire_Reader_take.f s 0 1 = some (⟨#[u]⟩, r, 0) ∧ u.toNat = b ∧ nb r = l := by
  have hs : s.size = l.length + 1 := by rw [← nb_length, h]; rfl
  refine ⟨UInt8.ofNat b, s.extract 1 s.size, ?_, ?_, ?_⟩
  · rw [wire_Reader_take.f, if_pos rfl, if_neg (by rw [hs]; omega), if_pos (by decide), if_pos (by rw [hs]; omega)]
    have : s.extract 0 1 = ⟨#[UInt8.ofNat b]⟩ := by
      rw [← bstr_nb (s.extract 0 1), nb_extract, h]; rfl
    show some (s.extract 0 1, _, _) = _
    rw [this]; rfl
  · have := nb_lt s b (by rw [h]; simp)
    rw [UInt8.toNat_ofNat']; exact Nat.mod_eq_of_lt this
  · rw [nb_extract, h, hs]; simp
theorem num_l0S : ∀ (l : List Nat) (s : ByteArray) (v i k : Nat), nb s = l → i + l.length < 1000000 → 3 * l.length + 3 ≤ k →
    match readNum v i l with
    | .error e => wire_Reader_Num.l0 k (v : Int) (i : Int) s 0 = some (0, ⟨#[]⟩, e)
    | .ok (n, l') => ∃ r, nb r = l' ∧ wire_Reader_Num.l0 k (v : Int) (i : Int) s 0 = some ((n : Int), r, 0) := by
  intro l
  induction l with
  | nil =>
    intro s v i k hs _ hk
    obtain ⟨k, rfl⟩ : ∃ m, k = m + 1 := ⟨k - 1, by omega⟩
    simp only [readNum, wire_Reader_Num.l0, take_nilS hs, Option.bind_some]
    rfl
  | cons b l ih =>
    intro s v i k hs hi hk
    simp only [List.length_cons] at hi hk
    obtain ⟨k, rfl⟩ : ∃ m, k = m + 3 := ⟨k - 3, by omega⟩
    obtain ⟨u, r, ht, hu, hr⟩ := take_consS hs
    have hb : b < 256 := by rw [← hu]; exact u.toNat_lt
    have hl1 : (⟨#[u]⟩ : ByteArray).toList = [u] := ByteArray.toList_eq _
    have hu8 : (u = 128) = (b = 128) := by
      rw [← hu]; apply propext; constructor
      · rintro rfl; rfl
      · intro h; exact UInt8.toNat_inj.1 h
    have hbt : bt ⟨#[u]⟩ 0 = (b : Int) := by rw [← hu]; rfl
    have J2 : wire_Reader_Num.l0 (k + 3) (v : Int) (i : Int) s 0 = wire_Reader_Num.j2 (k + 1) (v : Int) (i : Int) ⟨#[u]⟩ (decide ((i = 0 ∧ b = 128) ∨ 144115188075855872 ≤ v)) r 0 := by
      simp only [wire_Reader_Num.l0, ht, Option.bind_some, if_pos]
      by_cases h0 : i = 0
      · subst h0
        simp only [wire_Reader_Num.j1, hl1]
        by_cases h128 : b = 128
        · have : u = 128 := hu8.symm ▸ h128
          subst this
          simp [h128]
        · have : u ≠ 128 := fun e => h128 (hu8 ▸ e)
          have h2 : ([u] == ([128] : List UInt8)) = false := by simp [this]
          simp [h2, h128]
          congr 1
          simp; omega
      · have : ¬ ((i : Int) = 0) := by omega
        simp only [wire_Reader_Num.j1, this, if_false]
        simp [h0]
        congr 1
        simp; omega
    rw [J2, readNum]
    by_cases hc : (i = 0 ∧ b = 128) ∨ 144115188075855872 ≤ v
    · rw [if_pos hc, decide_eq_true hc]
      simp only [wire_Reader_Num.j2, if_true]
      rfl
    · have hv : v < 144115188075855872 := by omega
      have ha : bits .and .u8 (b : Int) 127 = ((b % 128 : Nat) : Int) := by
        have := and127 b
        rwa [show IntKind.u8.wrap (b : Int) = (b : Int) by show (b : Int) % 256 = _; omega] at this
      have hval : Go.bits .or .u64 (IntKind.u64.wrap ((v : Int) * 128)) (IntKind.u64.wrap (Go.bits .and .u8 (bt ⟨#[u]⟩ 0) 127)) = ((v * 128 + b % 128 : Nat) : Int) := by
        rw [hbt, ha, show IntKind.u64.wrap ((v : Int) * 128) = (v : Int) * 128 by show _ % (18446744073709551616 : Int) = _; omega, show IntKind.u64.wrap ((b % 128 : Nat) : Int) = ((b % 128 : Nat) : Int) by show _ % (18446744073709551616 : Int) = _; omega]
        exact or7 v (b % 128) hv (by omega)
      rw [if_neg hc, decide_eq_false hc]
      have J3 : wire_Reader_Num.j2 (k + 1) (v : Int) (i : Int) ⟨#[u]⟩ false r 0 = if b < 128 then some (((v * 128 + b % 128 : Nat) : Int), r, 0) else wire_Reader_Num.l0 k ((v * 128 + b % 128 : Nat) : Int) ((i + 1 : Nat) : Int) r 0 := by
        have hw : wrap64 ((i : Int) + 1) = ((i + 1 : Nat) : Int) := by rw [IntWalk.wrap64_in _ ⟨by omega, by omega⟩]; omega
        simp only [wire_Reader_Num.j2]
        rw [if_neg (by simp), if_pos (by show (0 : Int) < ((1 : Nat) : Int); decide), hval, hbt, hw]
        by_cases hb1 : b < 128
        · rw [if_pos (by omega), if_pos hb1]
        · rw [if_neg (by omega), if_neg hb1]
      rw [J3]
      by_cases hb1 : b < 128
      · rw [if_pos hb1, if_pos hb1]
        refine ⟨r, hr, ?_⟩
        rw [show b % 128 = b by omega]
      · rw [if_neg hb1, if_neg hb1]
        exact ih r (v * 128 + b % 128) (i + 1) k hr (by omega) (by omega)

theorem numS (n : Nat) (hn : n < 18446744073709551616) (s : ByteArray) (q : List Nat) (hs : nb s = num n ++ q) (hl : s.size ≤ 600) : ∃ r, wire_Reader_Num.f 2000 s 0 = some ((n : Int), r, 0) ∧ nb r = q := by
  have h := num_l0S (nb s) s 0 0 2000 rfl (by rw [nb_length]; omega) (by rw [nb_length]; omega)
  rw [hs, readNum_num n hn q] at h
  obtain ⟨r, hr, hf⟩ := h
  exact ⟨r, hf, hr⟩
theorem takeS (p q : List Nat) (s : ByteArray) (hs : nb s = p ++ q) : ∃ r, wire_Reader_take.f s 0 (p.length : Int) = some (bstr p, r, 0) ∧ nb r = q := by
  have hz : s.size = p.length + q.length := by rw [← nb_length, hs, List.length_append]
  refine ⟨s.extract p.length s.size, ?_, ?_⟩
  · rw [wire_Reader_take.f, if_pos rfl, if_neg (by rw [hz]; omega), if_pos (by omega), if_pos (by rw [hz]; omega)]
    have : s.extract 0 p.length = bstr p := by
      rw [← bstr_nb (s.extract 0 p.length), nb_extract, hs]; simp
    simp only [Int.toNat_natCast]
    rw [this]
  · rw [nb_extract, hs, List.take_of_length_le (by rw [List.length_append]; omega), List.drop_left' rfl]
theorem uptoS (n : Nat) (m : Int) (hn : (n : Int) ≤ m) (hm : m ≤ 4398046511104) (s : ByteArray) (q : List Nat) (hs : nb s = num n ++ q) (hl : s.size ≤ 600) : ∃ r, wire_Reader_Upto.f 2000 s 0 m = some ((n : Int), r, 0) ∧ nb r = q := by
  obtain ⟨r, h1, h2⟩ := numS n (by omega) s q hs hl
  refine ⟨r, ?_, h2⟩
  rw [wire_Reader_Upto.f, h1]
  simp only [Option.bind_some]
  have hx : IntKind.u64.wrap (mx m 0) = m := by
    have : mx m 0 = m := by unfold mx; omega
    rw [this]
    show m % 18446744073709551616 = _; omega
  rw [hx, if_neg (by omega), IntWalk.wrap64_in _ ⟨by omega, by omega⟩]
theorem strS (c : ByteArray) (m : Int) (hn : (c.size : Int) ≤ m) (hm : m ≤ 4398046511104) (s : ByteArray) (q : List Nat) (hs : nb s = num c.size ++ (nb c ++ q)) (hl : s.size ≤ 600) : ∃ r, wire_Reader_Str.f 2000 s 0 m = some (c, r, 0) ∧ nb r = q := by
  obtain ⟨r, h1, h2⟩ := uptoS c.size m hn hm s _ hs hl
  obtain ⟨r2, h3, h4⟩ := takeS (nb c) q r h2
  rw [nb_length, bstr_nb] at h3
  refine ⟨r2, ?_, h4⟩
  rw [wire_Reader_Str.f, h1]
  simp only [Option.bind_some]
  rw [h3]
  rfl
end Go.Proofs.Yteggenihjhclkaa
