/- Once around: what is put is taken again. -/
import Derived.Test.YtiddipimbdffcaaRsums
set_option linter.unusedSimpArgs false
set_option linter.unusedVariables false
namespace Go.Proofs.Ytiddipimbdffcaa
open Go.RowKit Go.Lib PWireStays Go.Proofs.YtiddipimbdffcaaW.PrintWords Go.Proofs.YtiddipimbdffcaaW.PrintLast Go.Proofs.YtiddipimbdffcaaW.PrintMore
/-- While the list is made: the sum, the list. -/
structure BS (w : World) (ga : Nat) (A : Array Value) (v : Value) (j : Nat) (X : List Value) (W : World) : Prop where
  a : W.heap[ga]? = some (.cells A 33 (0, 0))
  bl : Below w.heap.size w W
  row : W.ownsRow (ga + 1) 33 32 v j X
  lo : w.heap.size ≤ ga
  hi : ga + 1 ≤ W.heap.size
theorem BS.alloc {w : World} {ga : Nat} {A : Array Value} {v : Value} {j : Nat} {X : List Value} {W : World} (h : BS w ga A v j X W) (o : Obj) : BS w ga A v j X (W.alloc o) :=
  ⟨blk_alloc h.a o, ((Turn.ofBelow h.bl Nope).alloc o).nopeBelow, own_nope h.row ((Turn.refl _ _).alloc o), h.lo, by have := h.hi; simp; omega⟩
theorem BS.grown {w : World} {ga : Nat} {A : Array Value} {v v' : Value} {j j' : Nat} {X X' : List Value} {W W' : World} (h : BS w ga A v j X W) (hg : W.grownBy W' v.ownBlock) (ho : W'.ownsRow (ga + 1) 33 32 v' j' X') : BS w ga A v' j' X' W' :=
  ⟨(hg.block ga (blk_lt h.a) (fun e => by have := own_base h.row ga e.symm; omega)).trans h.a, ((Turn.ofBelow h.bl Nope).grown hg (fun k hk => .inr (by have := own_base h.row k hk; have := h.lo; omega))).nopeBelow, ho, h.lo, Nat.le_trans h.hi hg.size⟩
/-- The sum lies where it lay. -/
def PB (w : World) (ga : Nat) (A : Array Value) (W : World) : Prop := W.heap[ga]? = some (.cells A 33 (0, 0)) ∧ Below w.heap.size w W
theorem PB.all {w : World} {ga : Nat} {A : Array Value} {W : World} (h : PB w ga A W) : PB w ga A W ∧ W.rangeAt ga 0 A.toList :=
  ⟨h, fun j v hv => by rw [Nat.zero_add, blk_cell h.1]; simpa using hv⟩
theorem PB.call {w : World} {ga : Nat} {A : Array Value} {W W' : World} {R : Prop} (h : PB w ga A W ∧ R) (hk : Kept2 W W') (hb : Below w.heap.size W W') : PB w ga A W' ∧ W'.rangeAt ga 0 A.toList :=
  PB.all ⟨hk _ _ _ (by decide) (by decide) h.1.1, h.1.2.trans hb⟩
theorem PB.fst {w : World} {ga : Nat} {A : Array Value} {W : World} {R : Prop} (h : PB w ga A W ∧ R) : PB w ga A W := h.1
theorem PB.read {w : World} {ga g : Nat} {A : Array Value} {W W' : World} {s : ByteArray} {e : Int} (h : PB w ga A W) (hi : IsS63 w W g s e) (hk : ∀ i, i < W.heap.size → i ≠ g → W'.heap[i]? = W.heap[i]?) (hb : Below w.heap.size w W') : PB w ga A W' := by
  refine ⟨(hk ga (blk_lt h.1) ?_).trans h.1, hb⟩
  rintro rfl
  have := h.1
  rw [hi.1] at this
  simp at this
theorem PB.below {w : World} {ga : Nat} {A : Array Value} {W W' : World} (h : PB w ga A W) (hb : Below W.heap.size W W') : PB w ga A W' := ⟨(Turn.toNope hb).blk h.1 id, ((Turn.ofBelow h.2 Nope).below hb).nopeBelow⟩
set_option maxRecDepth 8000 in
set_option maxHeartbeats 4000000 in
theorem back_any (n : Nat) (hn : n < 18446744073709551616) (k : Int) (hk : (Lit.int .i64 k).wf = true) (s a : ByteArray) (m : Int) (w : World) : Calls Try.prog 6 #[.int .u64 (n : Int), .int .i64 k, .string s, .string a, .int .i64 m] w fun e w' => e = .returned (.bool true) ∧ Below w.heap.size w w' := by
  obtain ⟨c, hcut, hc⟩ := cut_some s 60
  have HCUT := Lib.hid hcut
  have HC := Lib.hid hc
  clear hcut hc
  obtain ⟨A, hA⟩ : ∃ V, V = (u8s (sum32 a)).toArray := ⟨_, rfl⟩
  have HA := Lib.hid hA
  have has : A.size = 32 := by rw [hA]; simp [u8s_length, sum32_length]
  have HEA : Hid (arrV (sum32 a) = .agg A) := by show _ = _; rw [hA]; rfl
  have HA1 := Lib.hid (show ∀ v ∈ A.toList, v.oneCell' = true by rw [hA]; intro u hu; simp [u8s] at hu; obtain ⟨x, _, rfl⟩ := hu; rfl)
  clear hA
  have HMM : Hid (∃ j : Nat, j ≤ 5 ∧ (if (5 : Int) < (if m < 0 then 0 else m) then (5 : Int) else (if m < 0 then 0 else m)) = (j : Int)) := by
    show ∃ j : Nat, _
    refine ⟨(if (5 : Int) < (if m < 0 then 0 else m) then (5 : Int) else (if m < 0 then 0 else m)).toNat, ?_, ?_⟩ <;> split <;> split <;> omega
  go_enter Try.func6, Try.ntmps6
  go_upto_region 5 with (first
    | (go_at_call 7; refine (PWireOne.hindsightlaw01_Cut.calls s 60 _ _ HCUT.out).mono ?_; rintro e w1 ⟨rfl, hd⟩; have HT := Lib.hid (Turn.ofBelow hd.below Nope); clear hd)
    | (go_at_call 14; refine (lsum_any _ _).mono ?_; rintro e w1 ⟨rfl, hb⟩; have HT := Lib.hid (HT.out.below hb); clear hb; rw [HEA.out])
    | (refine wpList_store33_new rfl _ _ rfl Z32 A rfl rfl Z32_size has HA1.out ?_))
  obtain ⟨j0, hj0, he⟩ := HMM.out
  rw [he]
  clear he HMM
  generalize (if m < 0 then (0 : Int) else m) = mm
  have HB0 : Hid (BS w w1.heap.size A (.slice (some ⟨w1.heap.size + 1, 0, none⟩) 0 0) 0 [] ((w1.alloc (.cells A 33)).alloc (.cells #[] 33))) := by
    have hq := blk_new (w1.alloc (.cells A 33)) (.cells #[] 33)
    rw [show (w1.alloc (.cells A 33)).heap.size = w1.heap.size + 1 by simp] at hq
    exact ⟨blk_alloc (blk_new w1 _) _, ((HT.out.alloc _).alloc _).nopeBelow, ⟨rfl, .inr ⟨w1.heap.size + 1, 0, #[], rfl, Nat.le_refl _, hq, Nat.le_refl _, Nat.zero_le _, rfl, rfl⟩⟩, HT.out.size, by simp⟩
  generalize (w1.alloc (.cells A 33)).alloc (.cells #[] 33) = wx at HB0 ⊢
  generalize hga : w1.heap.size = ga at HB0 ⊢
  generalize Value.slice (some ⟨ga + 1, 0, none⟩) 0 0 = v0 at HB0 ⊢
  clear hga HT
  go_wp2_with fail
  go_loopg [12, 25] j0 (fun gk v12 v25 wr => ∃ j : Nat, v25 = .int .i64 (j : Int) ∧ Hid (gk + j = j0) ∧ BS w ga A v12 j ((List.replicate j (sum32 a)).flatMap u8s) wr)
  case atStart => exact ⟨0, rfl, (show j0 + 0 = j0 from rfl), HB0.out⟩
  case round =>
    obtain ⟨j, rfl, hj, hbs⟩ := hrel
    have HS := Lib.hid hbs
    clear hbs
    rename World => wl
    have hjj := hj.out
    have hwj : wrap64 ((j : Int) + 1) = (j : Int) + 1 := IntWalk.wrap64_in _ ⟨by omega, by omega⟩
    by_cases hjl : j < j0
    · have b1 : decide ((j : Int) < (j0 : Int)) = true := by simp; omega
      have b1n : decide (j < j0) = true := by simpa using hjl
      have HFM : Hid ((List.flatMap (fun v => v.cells.toList) [Value.agg A]).toArray = A) := by show _ = _; simp [Value.cells]
      have HXL : Hid (A.toList.length = 1 * 32 ∧ A.toList = u8s (sum32 a)) := ⟨by rw [Array.length_toList, has], by rw [HA.out]⟩
      obtain ⟨i33, hi33, hz33, hs33, hb33⟩ := info_parts Try.info33w
      have I33 := Lib.hid (And.intro hi33 (And.intro hz33 (And.intro hs33 hb33)))
      clear hi33 hz33 hs33 hb33
      go_wp2_with (first
        | (refine wpList_load33 rfl _ rfl ga A rfl HS.out.a has ?_)
        | (refine wpList_build33 rfl 1 _ rfl [.agg A] (by simp only [List.map_toArray, List.map_cons, List.map_nil]; rfl) rfl (by decide) (by decide) (by intro v hv; simp at hv; subst hv; exact has) ?_; rw [HFM.out]; have HS3 := Lib.hid (HS.out.alloc (.cells A 33)))
        | (at_builtin; refine wpList_append_lies _ rfl (.tmp 27) (.tmp 29) 57 rfl (ga + 1) 33 i33 (.agg Z32) 32 32 Try.underlying57 I33.out.1 I33.out.2.1 I33.out.2.2.1 I33.out.2.2.2 Z32_size (by omega) _ j _ rfl HS3.out.row ⟨wl.heap.size, 0, none⟩ 1 1 A.toList rfl HXL.out.1 (news_new wl A 33) HA1.out (by omega) (by unfold maxLen; omega) (by omega) HS3.out.hi (wl.heap.size + 1) (by simp) ?_; intro g1 cap1 w6 hown hgrow hat hlt; have HS4 := Lib.hid (HS3.out.grown hgrow hown); clear hown hgrow hat hlt))
      go_roundg (j0 - (j + 1))
      case measure => omega
      case rel =>
        refine ⟨j + 1, by go_num, (show j0 - (j + 1) + (j + 1) = j0 by omega), ?_⟩
        rw [List.replicate_succ', List.flatMap_append, show [sum32 a].flatMap u8s = A.toList by rw [HXL.out.2]; simp]
        exact HS4.out
    · have b1 : decide ((j : Int) < (j0 : Int)) = false := by simp; omega
      have b1n : decide (j < j0) = false := by simpa using hjl
      have hje : j = j0 := by omega
      subst hje
      go_wp2_with fail
      have HRL := Lib.hid (show ∀ cs ∈ List.replicate j (sum32 a), cs.length = 32 by intro cs hc; rw [List.eq_of_mem_replicate hc]; exact sum32_length a)
      have HFL := Lib.hid (flatten_32 _ HRL.out)
      have HL : Hid ((num (List.replicate j (sum32 a)).length).length ≤ 10 ∧ (List.replicate j (sum32 a)).flatten.length ≤ 160 ∧ (num n).length ≤ 10 ∧ (num (zig k)).length ≤ 10 ∧ (num c.size).length ≤ 10 ∧ c.size ≤ 60) := ⟨num_le _ (by rw [List.length_replicate]; omega), by rw [HFL.out, List.length_replicate]; omega, num_le n hn, num_le _ (zig_lt k hk), num_le _ (by have := HC.out; omega), HC.out⟩
      have HW0 := Lib.hid ((WrB.new wl w.heap.size HS.out.bl.size).nope (Turn.refl _ _).drew)
      have HROW := Lib.hid (own_nope HS.out.row (((Turn.refl Nope wl).alloc (.cells #[.slice none 0 0] 37)).drew))
      have HPB : Hid (PB w ga A (wl.alloc (.cells #[.slice none 0 0] 37)).drew) := ⟨blk_drew (blk_alloc HS.out.a _), (((Turn.ofBelow HS.out.bl Nope).alloc _).drew).nopeBelow⟩
      have hu33 := Try.underlying33
      have hiA : (Try.prog.info? 33).map (·.size) = some A.toList.length := by rw [Array.length_toList, has]; exact Try.info33
      generalize wl.alloc (.cells #[.slice none 0 0] 37) = wa at HW0 HROW HPB ⊢
      generalize wl.heap.size = g at HW0 ⊢
      go_region_held3 (fun W => PB w ga A W ∧ W.rangeAt ga 0 A.toList) (first | exact HPB.out.all | exact PB.call (by assumption) HKc.out HBc.out)
        (first
          | (go_at_call 19; refine (sums_mine (List.replicate j (sum32 a)) HRL.out (by rw [List.length_replicate]; omega) (ga + 1) u12 _ (by rw [List.length_replicate]; exact HROW.out) HW0.out (by decide)).mono ?_; rintro e w19 ⟨rfl, hw, hb, hk⟩; have HW19 := Lib.hid hw; have HBc := Lib.hid hb; have HKc := Lib.hid hk; clear hw hb hk)
          | (go_at_call 15; refine (num_mine n hn _ HW19.out (by have := HL.out; simp only [List.nil_append, List.length_append]; omega)).mono ?_; rintro e w15 ⟨rfl, hw, hb, hk⟩; have HW15 := Lib.hid hw; have HBc := Lib.hid hb; have HKc := Lib.hid hk; clear hw hb hk)
          | (go_at_call 17; refine (str_mine c (by have := HL.out; omega) _ HW15.out (by have := HL.out; simp only [List.nil_append, List.length_append]; omega)).mono ?_; rintro e w17 ⟨rfl, hw, hb, hk⟩; have HW17 := Lib.hid hw; have HBc := Lib.hid hb; have HKc := Lib.hid hk; clear hw hb hk)
          | (go_at_call 16; refine (int_mine k hk _ HW17.out (by have := HL.out; have := nb_length c; simp only [List.nil_append, List.length_append]; omega)).mono ?_; rintro e w16 ⟨rfl, hw, hb, hk⟩; have HW16 := Lib.hid hw; have HBc := Lib.hid hb; have HKc := Lib.hid hk; clear hw hb hk)
          | (go_at_call 18; (try simp only [Array.toArray_toList]); have hsm := sum_mine (sum32 a) (sum32_length a) _ HW16.out (by have := HL.out; have := nb_length c; simp only [List.nil_append, List.length_append]; omega); rw [HEA.out] at hsm; refine (hsm).mono ?_; rintro e w18 ⟨rfl, hw, hb, hk⟩; have HW18 := Lib.hid hw; have HBc := Lib.hid hb; have HKc := Lib.hid hk; clear hw hb hk))
      have HF : Hid (PB w ga A w18) := PB.fst (by assumption)
      obtain ⟨tx, htx⟩ : ∃ tx, tx = bstr (num j ++ ((List.replicate j (sum32 a)).flatten ++ (num n ++ (num c.size ++ (nb c ++ (num (zig k) ++ (sum32 a ++ []))))))) := ⟨_, rfl⟩
      have hby : nb tx = num j ++ ((List.replicate j (sum32 a)).flatten ++ (num n ++ (num c.size ++ (nb c ++ (num (zig k) ++ (sum32 a ++ [])))))) := by
        rw [htx, nb_bstr]
        intro x hx
        simp only [List.mem_append, List.mem_flatten] at hx
        rcases hx with h | ⟨y, hy, h⟩ | h | h | h | h | h | h
        · exact num_lt _ x h
        · rw [List.eq_of_mem_replicate hy] at h; exact sum32_lt a x h
        · exact num_lt _ x h
        · exact num_lt _ x h
        · exact nb_lt c x h
        · exact num_lt _ x h
        · exact sum32_lt a x h
        · cases h
      have HTX : Hid (WrB w18 w.heap.size g (nb tx)) := by
        have h1 := HW18.out
        rw [show [] ++ (num (List.replicate j (sum32 a)).length ++ (List.replicate j (sum32 a)).flatten) ++ num n ++ (num c.size ++ nb c) ++ num (zig k) ++ sum32 a = nb tx by rw [hby, List.length_replicate]; simp] at h1
        exact h1
      have HBY := Lib.hid hby
      have HZ : Hid (tx.size ≤ 300) := by
        have h1 := HL.out
        have h2 := nb_length c
        have h3 := sum32_length a
        rw [List.length_replicate] at h1
        show tx.size ≤ 300
        rw [← nb_length, hby]
        simp only [List.length_append, List.length_nil]
        omega
      have HBW : Hid (Below w.heap.size w w18) := HF.out.2
      clear htx hby HW18 HW16 HW17 HW15 HW19 hsm HPB HROW HW0
      have HLT := Lib.hid (show ∀ cs ∈ List.replicate j (sum32 a), ∀ x ∈ cs, x < 256 by intro cs hc; rw [List.eq_of_mem_replicate hc]; exact sum32_lt a)
      go_wp2_with (first
        | (go_at_call 20; refine (text_mine tx _ HTX.out).mono ?_; rintro e w20 ⟨rfl, hw⟩; have HF := Lib.hid (show PB w ga A w20 by rw [hw]; exact HF.out); clear hw)
        | (go_at_call 8; refine (wire_Read.calls tx tx 0 w _ HF.out.2 rfl).mono ?_; rintro e w8 ⟨g2, rfl, hi, hb, hb2⟩; have HI := Lib.hid hi; have HF := Lib.hid (HF.out.below hb2); clear hi hb hb2)
        | (go_at_call 9; refine (awake_any _).mono ?_; rintro e w9 ⟨rfl, hb⟩; have HI := Lib.hid (HI.out.below hb); have HF := Lib.hid (HF.out.below hb); clear hb)
        | (go_at_call 25; refine (rsums_ok (List.replicate j (sum32 a)) HRL.out HLT.out (by rw [List.length_replicate]; exact hj0) tx _ (by rw [List.length_replicate]; exact HBY.out) (by have := HZ.out; omega) g2 w _ HI.out HF.out.2).mono ?_; rintro e w25 ⟨A2, c2, r0, rfl, hr0, hi, hb, hz, hk⟩; rw [List.length_replicate]; have HF := Lib.hid (HF.out.read HI.out hk hb); have HI := Lib.hid hi; have HR0 := Lib.hid hr0; clear hi hb hz hk hr0))
      have hsz : ∀ (x : ByteArray) (l : List Nat), nb x = l → x.size = l.length := fun x l h => by rw [← nb_length, h]
      have h0L := HL.out
      have hcL := nb_length c
      have haL := sum32_length a
      obtain ⟨r1, hf1, hn1⟩ := numS n hn r0 _ HR0.out (by rw [hsz _ _ HR0.out]; simp only [List.length_append, List.length_nil]; omega)
      obtain ⟨r2, hf2, hn2⟩ := strS c 60 (by omega) (by decide) r1 _ hn1 (by rw [hsz _ _ hn1]; simp only [List.length_append, List.length_nil]; omega)
      obtain ⟨r3, hf3, hn3⟩ := intS k hk r2 _ hn2 (by rw [hsz _ _ hn2]; simp only [List.length_append, List.length_nil]; omega)
      obtain ⟨r4, hf4, hn4⟩ := takeS (sum32 a) [] r3 hn3
      rw [sum32_length] at hf4
      have h4 := nb_nil hn4
      have HF1 := Lib.hid hf1
      have HF2 := Lib.hid hf2
      have HF3 := Lib.hid hf3
      have HF4 := Lib.hid hf4
      have HF5 := Lib.hid (show wire_Reader_End.f r4 0 = some (0, r4, 0) by rw [h4, wire_Reader_End.f, if_pos (by rw [ByteArray.toList_eq])])
      clear hsz h0L hcL haL hf1 hn1 hf2 hn2 hf3 hn3 hf4 hn4 h4
      have HFF : Hid (PB w ga A w25.drew) := ⟨blk_drew HF.out.1, ((Turn.ofBelow HF.out.2 Nope).drew).nopeBelow⟩
      have HG0 := HFF
      have HII := Lib.hid HI.out.drew
      have heq : ∀ W : World, (binOp .eql 33 (.agg A) (.agg A)).run Try.prog W = .ok (.bool true) W := fun W => eqV33 (sum32 a) (sum32_length a) A HA.out W
      have hs1 : (c.toList == c.toList) = true := by simp
      go_region_held3 (fun W => PB w ga A W ∧ W.rangeAt ga 0 A.toList) (first | exact HG0.out.all | exact HFF.out.all | assumption)
        (first
          | (go_at_call 10; refine (wire_Reader_Num.calls 2000 _ _ _ _ _ _ w _ HII.out HFF.out.2 HF1.out).mono ?_; rintro e w10 ⟨rfl, hi, hb, hk⟩; have HG10 := Lib.hid (HFF.out.read HII.out (fun i h1 h2 => hk.2 i h1 h2 (by simp)) hb); have HFF := HG10; have HII := Lib.hid hi; clear hi hb hk)
          | (go_at_call 26; refine (wire_Reader_Str.calls 2000 _ _ _ _ _ _ _ w _ HII.out HFF.out.2 HF2.out).mono ?_; rintro e w26 ⟨rfl, hi, hb, hk⟩; have HG26 := Lib.hid (HFF.out.read HII.out (fun i h1 h2 => hk.2 i h1 h2 (by simp)) hb); have HFF := HG26; have HII := Lib.hid hi; clear hi hb hk)
          | (go_at_call 27; refine (wire_Reader_Int.calls 2000 _ _ _ _ _ _ w _ HII.out HFF.out.2 HF3.out).mono ?_; rintro e w27 ⟨rfl, hi, hb, hk⟩; have HG27 := Lib.hid (HFF.out.read HII.out (fun i h1 h2 => hk.2 i h1 h2 (by simp)) hb); have HFF := HG27; have HII := Lib.hid hi; clear hi hb hk)
          | (go_at_call 28; refine (rsum_any r3 (bstr (sum32 a)) r4 0 0 HF4.out g2 w _ HII.out HFF.out.2).mono ?_; rintro e w28 ⟨rfl, hi, hb, hk⟩; rw [sum32_bstr _ (sum32_length a) (sum32_lt a), HEA.out]; have HG28 := Lib.hid (HFF.out.read HII.out (fun i h1 h2 => hk.2 i h1 h2 (by simp)) hb); have HFF := HG28; have HII := Lib.hid hi; clear hi hb hk)
          | (go_at_call 13; refine (wire_Reader_End.calls _ _ _ _ _ _ w _ HII.out HFF.out.2 HF5.out).mono ?_; rintro e w13 ⟨rfl, hi, hb, hk⟩; have HG13 := Lib.hid (HFF.out.read HII.out (fun i h1 h2 => hk.2 i h1 h2 (by simp)) hb); have HFF := HG13; have HII := Lib.hid hi; clear hi hb hk))
      go_wp2_with fail
      go_ret
      exact ⟨rfl, HFF.out.2⟩
theorem back_walk (n k : Int) (s a : ByteArray) (m : Int) (w : World) (hn : (Lit.int .u64 n).wf = true) (hk : (Lit.int .i64 k).wf = true) : Calls Try.prog 6 #[.int .u64 n, .int .i64 k, .string s, .string a, .int .i64 m] w fun e w' => e = .returned (.bool true) ∧ Below w.heap.size w w' := by
  have h1 : IntKind.u64.min ≤ n ∧ n ≤ IntKind.u64.max := by simpa [Lit.wf] using hn
  have h2 : 0 ≤ n ∧ n ≤ 18446744073709551615 := h1
  obtain ⟨q, rfl⟩ := Int.eq_ofNat_of_zero_le h2.1
  exact back_any q (by omega) k hk s a m w
end Go.Proofs.Ytiddipimbdffcaa
