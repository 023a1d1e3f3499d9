import Derived.Test.YtlalbmgopbcplaaWr
namespace Go.Proofs.Ytlalbmgopbcplaa
open Go.RowKit
def WrIs (w : World) (base : Nat) (F : Nat → Prop) (g : Nat) (bs : List Nat) : Prop := ∃ v, WrAt w base F g v bs
variable {w w' : World} {base : Nat} {F : Nat → Prop} {g : Nat} {bs : List Nat}
theorem WrAt.more2 {W W1 : World} {v : Value} {cs : List Nat} (h : WrAt w base F g v bs) (ht : Turn Nope w W) (hg : W.grownBy W1 v.ownBlock) {g1 cap1 m : Nat} {xs : List Value} (ho : W1.ownsRow base 5 1 (.slice (some ⟨g1, 0, none⟩) m cap1) m xs) (hm : m = (bs ++ cs).length) (hx : xs = u8s (bs ++ cs)) (ha : v.ownBlock = some g1 ∨ w.heap.size ≤ g1) (hl : g1 < W1.heap.size) :
    (∃ F' : Nat → Prop, WrAt (W1.setCell ⟨g, 0, none⟩ (.slice (some ⟨g1, 0, none⟩) m cap1)) base F' g (.slice (some ⟨g1, 0, none⟩) m cap1) (bs ++ cs) ∧ ∀ k, F' k → F k ∨ w.heap.size ≤ k) ∧
      Turn F w (W1.setCell ⟨g, 0, none⟩ (.slice (some ⟨g1, 0, none⟩) m cap1)) := by
  subst hm hx
  have h1 := h.more ht hg ho ha hl
  exact ⟨⟨_, h1.1, fun k hk => hk.imp id And.left⟩, h1.2⟩
theorem u8s_append (a b : List Nat) : u8s (a ++ b) = u8s a ++ u8s b := by simp [u8s]
theorem conv_u8 (a : Nat) : ∀ W, (convert 52 5 (.int .u64 (a : Int))).run Try.prog W = .ok (.int .u8 (IntKind.u8.wrap (a : Int))) W := fun W => by
  kernel_rfl
set_option maxRecDepth 8000 in
set_option maxHeartbeats 4000000 in
theorem num_any (n : Nat) (hn : n < 18446744073709551616) (w : World) (h : WrIs w base F g bs) (hl : bs.length ≤ 1000000) :
    Calls Try.prog 18 #[.pointer (some ⟨g, 0, none⟩), .int .u64 (n : Int)] w fun e w' => e = .returned (.pointer (some ⟨g, 0, none⟩)) ∧ (∃ F' : Nat → Prop, WrIs w' base F' g (bs ++ num n) ∧ ∀ k, F' k → F k ∨ w.heap.size ≤ k) ∧ Turn F w w' := by
  have H := Lib.hid h
  clear h
  go_enter Try.func18, Try.ntmps18
  go_wp2_with fail
  go_loopg [5] 9 (fun gk v5 wr => ∃ k : Nat, v5 = .int .i64 (k : Int) ∧ Hid (gk + k = 9 ∧ (k = 0 ∨ 128 ^ k ≤ n)) ∧ wr = w)
  case atStart => exact ⟨0, rfl, ⟨rfl, .inl rfl⟩, rfl⟩
  case round =>
    obtain ⟨k, rfl, hk, rfl⟩ := hrel
    rename World => wq
    have h9 : k ≤ 9 := by have := hk.out.1; omega
    have hs1 := shr_run n (k + 1) hn (7 * ((k : Int) + 1)) (by omega)
    have hw1 : wrap64 ((k : Int) + 1) = (k : Int) + 1 := IntWalk.wrap64_in _ ⟨by omega, by omega⟩
    have hs2 : (n : Int) / 2 ^ (7 * (k + 1)) = ((n / 128 ^ (k + 1) : Nat) : Int) := by rw [← pow_7, Int.natCast_ediv]; simp
    have hq0 : 0 < n / 128 ^ (k + 1) → 128 ^ (k + 1) ≤ n := fun hp => Nat.le_of_not_lt (fun h => by rw [Nat.div_eq_of_lt h] at hp; omega)
    have hq1 : n / 128 ^ (k + 1) = 0 → n < 128 ^ (k + 1) := fun h => by rcases Nat.div_eq_zero_iff.1 h with h | h; exact absurd h (Nat.ne_of_gt (Nat.pow_pos (by decide))); exact h
    generalize n / 128 ^ (k + 1) = q at *
    by_cases hp : 0 < q
    · have b1 : decide ((0 : Int) < (q : Int)) = true := by simp; omega
      have b1n : decide (0 < q) = true := by simpa using hp
      by_cases hk9 : k < 9
      · have b2 : decide ((k : Int) < 9) = true := by simp; omega
        have b2n : decide (k < 9) = true := by simpa using hk9
        have hpw := Lib.hid (hq0 hp)
        clear hq0 hq1
        go_wp2_with fail
        go_roundg (8 - k)
        case measure => have := hk.out.1; omega
        case rel => exact ⟨k + 1, by go_num, ⟨by omega, .inr hpw.out⟩, rfl⟩
      · exfalso
        have h10 : k = 9 := by omega
        subst h10
        have := hq0 hp
        omega
    · have hq : q = 0 := by omega
      subst hq
      have hnk := Lib.hid (hq1 rfl)
      clear hq0 hq1 hp
      go_wp2_with fail
      go_loopg [5] (k + 1) (fun gj v5 wr => ∃ (done : List Nat) (F' : Nat → Prop) (z : Int), v5 = .int .i64 z ∧ Hid (z = (gj : Int) - 1 ∧ gj ≤ k + 1 ∧ done ++ (if gj = 0 then [] else emit n (gj - 1)) = emit n k ∧ (∀ x, F' x → F x ∨ wq.heap.size ≤ x) ∧ done.length + gj = k + 1) ∧ WrIs wr base F' g (bs ++ done) ∧ Turn F wq wr)
      case atStart => exact ⟨[], F, _, rfl, ⟨by omega, Nat.le_refl _, by simp, fun _ h => .inl h, by simp⟩, by simpa using H.out, Turn.refl _ _⟩
      case round =>
        obtain ⟨done, F', z, rfl, hj, hw, ht⟩ := hrel
        have HW := Lib.hid hw
        have HT := Lib.hid ht
        clear hw ht
        rename World => wl
        by_cases hg0 : gk = 0
        · obtain rfl : z = -1 := by have := hj.out.1; omega
          have hd : bs ++ done = bs ++ num n := by
            have h1 := hj.out.2.2.1
            rw [if_pos hg0, List.append_nil] at h1
            rw [h1, emit_num n _ hnk.out hk.out.2]
          have HD := Lib.hid hd
          clear hd
          go_wp2_with fail
          go_ret
          exact ⟨rfl, ⟨F', by rw [← HD.out]; exact HW.out, hj.out.2.2.2.1⟩, HT.out⟩
        · obtain ⟨i5, hi5, hz5, hs5, hb5⟩ := info_parts Try.info5
          have I5 := Lib.hid (And.intro hi5 (And.intro hz5 (And.intro hs5 hb5)))
          clear hi5 hz5 hs5 hb5
          obtain ⟨v, hv⟩ := HW.out
          have HV := Lib.hid hv
          clear hv
          have c0 := blk_cell HV.out.hd 0
          have c0f := blk_frozen HV.out.hd 0
          simp at c0
          obtain ⟨j, hgj⟩ : ∃ j, gk = j + 1 := ⟨gk - 1, by omega⟩
          have hj9 : j ≤ 9 := by have := hj.out.2.1; omega
          obtain rfl : z = (j : Int) := by have := hj.out.1; omega
          have LB0 : Hid ((bs ++ done).length ≤ 1000010) := by have := hj.out.2.2.2.2; show (bs ++ done).length ≤ _; rw [List.length_append]; omega
          have HNG : Hid (v.ownBlock ≠ some g) := fun e => own_ne HV.out.row HV.out.hd (by decide) g e rfl
          have HLO : Hid (base ≤ wl.heap.size) := by have h1 := HV.out.lo g HV.out.fg; have h2 := HV.out.lt g HV.out.fg; show base ≤ _; omega
          have HRW := Lib.hid HV.out.row
          obtain ⟨L, X, HLL, HRX, LB⟩ : ∃ (L : Nat) (X : List Value), Hid (L = (bs ++ done).length ∧ X = u8s (bs ++ done)) ∧ Hid (wl.ownsRow base 5 1 v L X) ∧ Hid (L ≤ 1000010) := ⟨_, _, ⟨rfl, rfl⟩, HRW.out, LB0.out⟩
          clear HRW LB0
          by_cases hj0 : j = 0
          · subst hj0
            have ha0 : bits .and .u8 ((n : Int) % 256) 127 = (((n % 128 : Nat)) : Int) := and127 n
            have HEN : Hid (done ++ [n % 128] = emit n k) := by
              have h1 := hj.out.2.2.1
              rw [if_neg hg0, hgj] at h1
              exact h1
            generalize n % 128 = D at *
            have HBS := Lib.hid (own_nope HRX.out ((Turn.refl _ _).alloc (.cells #[.int .u8 ((D : Nat) : Int)] 5)))
            go_wp2_with (first | (at_builtin; refine wpList_append_lies _ rfl (.tmp 37) (.tmp 39) 47 rfl base 5 i5 _ 1 1 Try.underlying47 I5.out.1 I5.out.2.1 I5.out.2.2.1 I5.out.2.2.2 rfl (by omega) v L X rfl HBS.out ⟨wl.heap.size, 0, none⟩ 1 1 (u8s [D]) rfl rfl (news_new wl #[.int .u8 ((D : Nat) : Int)] 5) (by intro u hu; simp [u8s] at hu; subst hu; rfl) (by omega) (by have := LB.out; unfold maxLen; omega) (by have := LB.out; omega) (by have := HLO.out; simp; omega) (wl.heap.size + 1) (by simp) ?_; intro g1 cap1 w6 hown1 hgr1 hat1 hlt1; have HO1 := Lib.hid hown1; have HG1 := Lib.hid hgr1; have HA1 := Lib.hid hat1; have HL1 := Lib.hid hlt1; clear hown1 hgr1 hat1 hlt1; have HD6 := Lib.hid (blk_grown (blk_alloc HV.out.hd (.cells #[.int .u8 ((D : Nat) : Int)] 5)) HG1.out HNG.out); have d0 := blk_cell HD6.out 0; have d0f := blk_frozen HD6.out 0; simp at d0))
            go_roundg 0
            case measure => omega
            case rel =>
              have HM := HV.out.more2 (cs := [D]) ((Turn.refl _ _).alloc _) HG1.out HO1.out (by rw [HLL.out.1]; simp; omega) (by rw [HLL.out.2]; simp [u8s_append]) (HA1.out.imp id (fun e => by omega)) HL1.out
              obtain ⟨⟨F2, hF2, hk2⟩, ht2⟩ := HM
              refine ⟨done ++ [D], F2, -1, by go_num, ⟨by omega, by omega, by simpa using HEN.out, fun x hx => ?_, by have := hj.out.2.2.2.2; simp; omega⟩, ⟨_, by rw [← List.append_assoc]; exact hF2⟩, HT.out.then ht2 hj.out.2.2.2.1⟩
              rcases hk2 x hx with h1 | h1
              · exact hj.out.2.2.2.1 x h1
              · right; have := HT.out.size; omega
          · have b3 : decide ((0 : Int) < (j : Int)) = true := by simp; omega
            have b3n : decide (0 < j) = true := by simp; omega
            have hsj := shr_run n j hn (7 * (j : Int)) rfl
            have hsj2 : (n : Int) / 2 ^ (7 * j) = ((n / 128 ^ j : Nat) : Int) := by rw [← pow_7, Int.natCast_ediv]; simp
            have HEN : Hid (done ++ (128 + n / 128 ^ j % 128) :: emit n (j - 1) = emit n k) := by
              have h1 := hj.out.2.2.1
              rw [if_neg hg0, hgj] at h1
              rw [← h1]
              show _ = done ++ emit n (j + 1 - 1)
              rw [Nat.add_sub_cancel]
              cases j with
              | zero => exact absurd rfl hj0
              | succ j => rfl
            generalize n / 128 ^ j = q at *
            have ha : bits .and .u8 ((q : Int) % 256) 127 = ((q % 128 : Nat) : Int) := and127 q
            have ho := or128 (q % 128) (Nat.mod_lt _ (by decide))
            generalize q % 128 = r at *
            have hdr : (128 : Int) + (r : Int) = ((128 + r : Nat) : Int) := by simp
            have HBS := Lib.hid (own_nope HRX.out ((Turn.refl _ _).alloc (.cells #[.int .u8 (((128 + r : Nat)) : Int)] 5)))
            generalize 128 + r = D at *
            go_wp2_with (first | (at_builtin; refine wpList_append_lies _ rfl (.tmp 37) (.tmp 39) 47 rfl base 5 i5 _ 1 1 Try.underlying47 I5.out.1 I5.out.2.1 I5.out.2.2.1 I5.out.2.2.2 rfl (by omega) v L X rfl HBS.out ⟨wl.heap.size, 0, none⟩ 1 1 (u8s [D]) rfl rfl (news_new wl #[.int .u8 ((D : Nat) : Int)] 5) (by intro u hu; simp [u8s] at hu; subst hu; rfl) (by omega) (by have := LB.out; unfold maxLen; omega) (by have := LB.out; omega) (by have := HLO.out; simp; omega) (wl.heap.size + 1) (by simp) ?_; intro g1 cap1 w6 hown1 hgr1 hat1 hlt1; have HO1 := Lib.hid hown1; have HG1 := Lib.hid hgr1; have HA1 := Lib.hid hat1; have HL1 := Lib.hid hlt1; clear hown1 hgr1 hat1 hlt1; have HD6 := Lib.hid (blk_grown (blk_alloc HV.out.hd (.cells #[.int .u8 ((D : Nat) : Int)] 5)) HG1.out HNG.out); have d0 := blk_cell HD6.out 0; have d0f := blk_frozen HD6.out 0; simp at d0))
            go_roundg j
            case measure => omega
            case rel =>
              have HM := HV.out.more2 (cs := [D]) ((Turn.refl _ _).alloc _) HG1.out HO1.out (by rw [HLL.out.1]; simp; omega) (by rw [HLL.out.2]; simp [u8s_append]) (HA1.out.imp id (fun e => by omega)) HL1.out
              obtain ⟨⟨F2, hF2, hk2⟩, ht2⟩ := HM
              refine ⟨done ++ [D], F2, (j : Int) - 1, by go_num, ⟨by omega, by have := hj.out.2.1; omega, ?_, fun x hx => ?_, by have := hj.out.2.2.2.2; simp; omega⟩, ⟨_, by rw [← List.append_assoc]; exact hF2⟩, HT.out.then ht2 hj.out.2.2.2.1⟩
              · rw [if_neg hj0, List.append_assoc]; exact HEN.out
              · rcases hk2 x hx with h1 | h1
                · exact hj.out.2.2.2.1 x h1
                · right; have := HT.out.size; omega
end Go.Proofs.Ytlalbmgopbcplaa
