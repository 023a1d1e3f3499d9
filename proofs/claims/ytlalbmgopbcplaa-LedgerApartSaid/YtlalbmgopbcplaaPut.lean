/- Writer.Int, Writer.Str: what they lay behind what is there. -/
import Derived.Test.YtlalbmgopbcplaaRd
import Derived.Deep.DeepCutAuto
import Derived.Deep.CutBlock
namespace Go.Proofs.Ytlalbmgopbcplaa
open Go.RowKit Go.Lib
variable {w w' : World} {base : Nat} {F : Nat → Prop} {g : Nat} {bs : List Nat}
theorem emit_length (n : Nat) : ∀ k, (emit n k).length = k + 1 := by
  intro k
  induction k with
  | zero => rfl
  | succ k ih => rw [emit, List.length_cons, ih]
theorem num_le (n : Nat) (h : n < 18446744073709551616) : (num n).length ≤ 10 := by
  obtain ⟨k, h1, h2⟩ := digits n
  rw [← emit_num n k h1 h2, emit_length]
  rcases h2 with rfl | h2
  · decide
  · have : k < 10 := by
      refine Nat.lt_of_not_le fun hk => ?_
      have h3 : 128 ^ 10 ≤ 128 ^ k := Nat.pow_le_pow_right (by decide) hk
      have h4 : 18446744073709551616 ≤ 128 ^ 10 := by decide
      omega
    omega
theorem WrIs.opened (h : WrIs w base F g bs) : ∃ v L X, Hid (WrAt w base F g v bs) ∧ Hid (L = bs.length ∧ X = u8s bs) ∧ Hid (w.ownsRow base 5 1 v L X) ∧ Hid (v.ownBlock ≠ some g) ∧ Hid (base ≤ w.heap.size) ∧ w.cell? ⟨g, 0, none⟩ = some v ∧ w.frozen? ⟨g, 0, none⟩ = false := by
  obtain ⟨v, hv⟩ := h
  refine ⟨v, _, _, hv, ⟨rfl, rfl⟩, hv.row, fun e => own_ne hv.row hv.hd (by decide) g e rfl, ?_, by rw [blk_cell hv.hd 0]; rfl, blk_frozen hv.hd 0⟩
  have h1 := hv.lo g hv.fg; have h2 := hv.lt g hv.fg
  show base ≤ _; omega
/-- A string behind a row of one's own that holds something: where the new row lies. -/
theorem run_append_str {base n : Nat} {v : Value} {xs : List Value} {s : ByteArray} (ho : w.ownsRow base 5 1 v n xs) (hn : 0 < n) (hl : n + s.size ≤ 100000000) (hb : base ≤ w.heap.size) :
    ∃ g1 cap1 w1, (Builtin.append_ #[47, 9] 47 #[v, .string s]).run Try.prog w = .ok (.slice (some ⟨g1, 0, none⟩) (n + s.size) cap1) w1 ∧ w1.ownsRow base 5 1 (.slice (some ⟨g1, 0, none⟩) (n + s.size) cap1) (n + s.size) (xs ++ u8s (nb s)) ∧ w.grownBy w1 v.ownBlock ∧ (v.ownBlock = some g1 ∨ g1 = w.heap.size) ∧ g1 < w1.heap.size := by
  obtain ⟨i5, hi5, hz5, hs5, hb5⟩ := info_parts Try.info5
  obtain ⟨v', w1, hr, h2, h3, h4⟩ := run_append_own_string (P := Try.prog) w base 47 9 47 5 i5 Try.underlying47 Try.underlying9 hi5 hz5 hs5 hb5 v n xs ho s (by unfold maxLen; omega) (by omega) hb
  obtain ⟨g1, cap1, rfl, hg1, hlt⟩ := h2.form (by omega)
  rw [u8s_nb]
  refine ⟨g1, cap1, w1, hr, h2, h3, ?_, hlt⟩
  rcases ho.2 with ⟨_, h0⟩ | ⟨g0, cap, cur, rfl, hb0, hh, hc1, hc2, hc3, hc4⟩
  · omega
  · by_cases hroom : n + s.size ≤ cap
    · have := run_append_room_string (P := Try.prog) w 47 9 47 5 i5 Try.underlying47 Try.underlying9 hi5 hs5 g0 n cap cur hh s hroom (by omega)
      rw [hr] at this
      injection this with e1 e2
      injection e1 with e3 _ _
      injection e3 with e4
      injection e4 with e5 _ _
      left; rw [e5]; rfl
    · have hx : xs.length = n := by simpa using ho.1
      have := run_append_grow_string (P := Try.prog) w 47 9 47 5 i5 _ Try.underlying47 Try.underlying9 hi5 hz5 ⟨g0, 0, none⟩ n cap xs (by rw [hs5]; simpa using hx) (ho.cells (g := g0) rfl) s (by omega) (by omega) (by rw [hb5]; exact growslice_fits (by omega) (by omega))
      rw [hr] at this
      injection this with e1 e2
      injection e1 with e3 _ _
      injection e3 with e4
      injection e4 with e5 _ _
      exact .inr e5
theorem wpList_append_str {ops : Array Oper} {rest : List Oper} {o : Oper} {a : Act} {Q : Exit → Act → World → Prop} (hgd : o.guard = none) (sl x : Operand)
    (hop : o.op = .call { callee := .builtin .append, args := #[sl, x], argTypes := #[47, 9] }) (hty : o.type = 47)
    {base n : Nat} {v : Value} {xs : List Value} {s : ByteArray} (hs : a.eval sl = v) (hx : a.eval x = .string s) (ho : w.ownsRow base 5 1 v n xs) (hn : 0 < n) (hl : n + s.size ≤ 100000000) (hb : base ≤ w.heap.size)
    (h : ∀ g1 cap1 w1, w1.ownsRow base 5 1 (.slice (some ⟨g1, 0, none⟩) (n + s.size) cap1) (n + s.size) (xs ++ u8s (nb s)) → w.grownBy w1 v.ownBlock → (v.ownBlock = some g1 ∨ g1 = w.heap.size) → g1 < w1.heap.size → wpList Try.prog ops Q rest (a.put o.dst (.slice (some ⟨g1, 0, none⟩) (n + s.size) cap1)) w1) : wpList Try.prog ops Q (o :: rest) a w := by
  refine wpList_plain hgd fun K hK => ?_
  obtain ⟨g1, cap1, w1, hr, h2, h3, h4, h5⟩ := run_append_str ho hn hl hb
  unfold Oper.wp execOp
  simp only [hop, hty, resolve, invoke, builtin, Sem.run_bind, Sem.run_pure, Result.andThen_ok, List.map_toArray, List.map_cons, List.map_nil, hs, hx, hr]
  exact hK _ _ (h g1 cap1 w1 h2 h3 h4 h5)
set_option maxHeartbeats 4000000 in
theorem str_any (s : ByteArray) (hs : s.size ≤ 1000000) (w : World) (h : WrIs w base F g bs) (hl : bs.length ≤ 1000000) :
    Calls Try.prog 19 #[.pointer (some ⟨g, 0, none⟩), .string s] w fun e w' => e = .returned (.pointer (some ⟨g, 0, none⟩)) ∧ (∃ F' : Nat → Prop, WrIs w' base F' g (bs ++ (num s.size ++ nb s)) ∧ ∀ k, F' k → F k ∨ w.heap.size ≤ k) ∧ Turn F w w' := by
  go_enter Try.func19, Try.ntmps19
  go_upto_region 2 with (first | (go_at_call 18; refine (num_any s.size (by omega) w h hl).mono ?_; rintro e w1 ⟨rfl, ⟨F1, hw1, hk1⟩, ht1⟩))
  have HT1 := Lib.hid ht1
  have HK1 := Lib.hid hk1
  obtain ⟨v, L, X, HV, HLX, HR, HNG, HLO, c0, c0f⟩ := hw1.opened
  have LB := Lib.hid (show L ≤ 1000020 ∧ 0 < L by have h1 := num_le s.size (by omega); have h2 := num_length s.size; rw [HLX.out.1, List.length_append]; omega)
  clear ht1 hk1 hw1
  go_wp2_with (first | (at_builtin; refine wpList_append_str rfl (.tmp 14) (.tmp 15) rfl rfl (v := v) (s := s) rfl rfl HR.out (by have := LB.out; omega) (by have := LB.out; omega) HLO.out ?_; intro g1 cap1 w6 hown1 hgr1 hat1 hlt1; have HO1 := Lib.hid hown1; have HG1 := Lib.hid hgr1; have HA1 := Lib.hid hat1; have HL1 := Lib.hid hlt1; clear hown1 hgr1 hat1 hlt1; have HD6 := Lib.hid (blk_grown HV.out.hd HG1.out HNG.out); have d0 := blk_cell HD6.out 0; have d0f := blk_frozen HD6.out 0; simp at d0))
  have HM := HV.out.more2 (cs := nb s) (Turn.refl _ _) HG1.out HO1.out (by rw [HLX.out.1, ← nb_length, ← List.length_append]) (by rw [HLX.out.2, ← u8s_append]) (HA1.out.imp id (fun e => by omega)) HL1.out
  rw [List.append_assoc] at HM
  obtain ⟨⟨F2, hF2, hk2⟩, ht2⟩ := HM
  go_ret
  refine ⟨rfl, ⟨F2, ⟨_, hF2⟩, fun k hk => ?_⟩, HT1.out.then ht2 HK1.out⟩
  rcases hk2 k hk with h1 | h1
  · exact HK1.out k h1
  · right; have := HT1.out.size; omega
end Go.Proofs.Ytlalbmgopbcplaa
