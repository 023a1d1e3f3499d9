/- Writer.Sum, Writer.Sums: what they lay behind what is there. -/
import Derived.Test.YtiddipimbdffcaaLsum
import Derived.Deep.RegionLaw
namespace Go.Proofs.Ytiddipimbdffcaa
open Go.RowKit Go.Lib
variable {w w' : World} {base : Nat} {F : Nat → Prop} {g : Nat} {bs : List Nat}
set_option maxHeartbeats 4000000 in
theorem sum_any (cs : List Nat) (hc : cs.length = 32) (w : World) (h : WrIs w base F g bs) (hl : bs.length ≤ 1000000) :
    Calls Try.prog 18 #[.pointer (some ⟨g, 0, none⟩), arrV cs] w fun e w' => e = .returned (.pointer (some ⟨g, 0, none⟩)) ∧ (∃ F' : Nat → Prop, WrIs w' base F' g (bs ++ cs) ∧ ∀ k, F' k → F k ∨ w.heap.size ≤ k) ∧ Turn F w w' := by
  obtain ⟨v, L, X, HV, HLX, HR, HNG, HLO, c0, c0f⟩ := h.opened
  have LB := Lib.hid (show L ≤ 1000020 by rw [HLX.out.1]; omega)
  obtain ⟨i5, hi5, hz5, hs5, hb5⟩ := info_parts Try.info5
  have I5 := Lib.hid (And.intro hi5 (And.intro hz5 (And.intro hs5 hb5)))
  clear hi5 hz5 hs5 hb5 h c0 c0f
  have HU := Lib.hid (show (u8s cs).length = 32 by rw [u8s_length, hc])
  have HC := Lib.hid hc
  clear hc
  unfold arrV
  obtain ⟨V, hV⟩ : ∃ V, V = (u8s cs).toArray := ⟨_, rfl⟩
  have HVV := Lib.hid hV
  rw [← hV]
  clear hV
  have hvs : V.size = 32 := by rw [HVV.out]; simpa using HU.out
  have SAT : Hid (∀ W : World, W.heap[g]? = some (.cells #[v] 37 (0, 0)) → W.cell? ⟨g, 0, none⟩ = some v ∧ W.frozen? ⟨g, 0, none⟩ = false) := fun W hW => ⟨by rw [blk_cell hW 0]; rfl, blk_frozen hW 0⟩
  obtain ⟨p0, p1⟩ := SAT.out (w.alloc (.cells V 33)).drew (blk_drew (blk_alloc HV.out.hd _))
  go_enter Try.func18, Try.ntmps18
  go_wp2_with (fail)
  go_region_law (first | (refine step_append_lies _ rfl (.tmp 9) (.tmp 10) 35 rfl base 5 i5 _ 1 1 Try.underlying35 I5.out.1 I5.out.2.1 I5.out.2.2.1 I5.out.2.2.2 rfl (by omega) v L X rfl (own_nope HR.out ((Turn.refl _ _).alloc _).drew) ⟨w.heap.size, 0, none⟩ 32 32 (u8s cs) rfl (by rw [HU.out]) (by have := news_new w V 33; rw [HVV.out] at this ⊢; simpa using this) (by intro u hu; simp [u8s] at hu; obtain ⟨x, _, rfl⟩ := hu; rfl) (by omega) (by have := LB.out; unfold maxLen; omega) (by have := LB.out; omega) (by have := HLO.out; simp; omega) (w.heap.size + 1) (by simp) ?_; intro g1 cap1 w6 hown hgr hat hlt; have HO1 := Lib.hid hown; have HG1 := Lib.hid hgr; have HA1 := Lib.hid hat; have HL1 := Lib.hid hlt; clear hown hgr hat hlt; obtain ⟨r0, r1⟩ := SAT.out _ (blk_grown (blk_drew (blk_alloc HV.out.hd _)) HG1.out HNG.out); clear p0 p1))
  have HT0 : Hid (Turn Nope w (w.alloc (.cells V 33)).drew) := ((Turn.refl _ _).alloc _).drew
  have HM := HV.out.more2 (cs := cs) HT0.out HG1.out HO1.out (by rw [HLX.out.1, List.length_append, HC.out]) (by rw [HLX.out.2, u8s_append]) (HA1.out.imp id (fun e => by omega)) HL1.out
  obtain ⟨⟨F2, hF2, hk2⟩, ht2⟩ := HM
  go_wp2_with fail
  go_ret
  exact ⟨rfl, ⟨F2, ⟨_, hF2⟩, hk2⟩, ht2⟩
theorem wpList_store33_new {ops : Array Oper} {rest : List Oper} {op : Oper} {a : Act} {w0 : World} {Q : Exit → Act → World → Prop} (hgd : op.guard = none) (x y : Operand) (ho : op.op = .store 33 x y)
    (cur V : Array Value) (hx : a.eval x = .pointer (some ⟨w0.heap.size, 0, none⟩)) (hy : a.eval y = .agg V)
    (hc : cur.size = 32) (hV : V.size = 32) (h1 : ∀ v ∈ V.toList, v.oneCell' = true)
    (h : wpList Try.prog ops Q rest (a.put op.dst undef) (w0.alloc (.cells V 33))) : wpList Try.prog ops Q (op :: rest) a (w0.alloc (.cells cur 33)) :=
  wpList_store33 hgd x y ho w0.heap.size cur V hx hy (blk_new w0 _) hc hV h1 (by rw [World.setRow_alloc_new]; exact h)
/-- The range of an element of a row of sums. -/
theorem own_range {w : World} {b : Nat} {A : Option Addr} {c : Nat} {l : List (List Nat)} (h : w.ownsRow b 33 32 (.slice A l.length c) l.length (l.flatMap u8s)) (hl : ∀ cs ∈ l, cs.length = 32) {k : Nat} {cs : List Nat} (hk : l[k]? = some cs) :
    ∃ q, A = some ⟨q, 0, none⟩ ∧ w.rangeAt q (k * 32) (u8s cs) := by
  have hlt : k < l.length := (List.getElem?_eq_some_iff.1 hk).1
  rcases h.2 with ⟨_, h0⟩ | ⟨q, cap, cur, hv, _⟩
  · omega
  · injection hv with hA _ hcap
    subst hA
    refine ⟨q, rfl, fun j v hv => ?_⟩
    have hflat : ∀ (l : List (List Nat)) (k : Nat), (∀ cs ∈ l, cs.length = 32) → l[k]? = some cs → (l.flatMap u8s)[32 * k + j]? = some v := by
      intro l
      induction l with
      | nil => intro k _ h; cases h
      | cons x l ih =>
        intro k hl hk
        have hx : (u8s x).length = 32 := by rw [u8s_length]; exact hl x (by simp)
        rw [List.flatMap_cons]
        cases k with
        | zero =>
          simp at hk
          subst hk
          have hj : j < (u8s x).length := (List.getElem?_eq_some_iff.1 hv).1
          rw [Nat.mul_zero, Nat.zero_add, List.getElem?_append_left hj]
          exact hv
        | succ k =>
          rw [List.getElem?_append_right (by rw [hx]; omega), hx, show 32 * (k + 1) + j - 32 = 32 * k + j by omega]
          exact ih k (fun cs h => hl cs (by simp [h])) (by simpa using hk)
    rw [Nat.mul_comm]
    exact own_elem h (32 * k + j) (hflat l k hl hk)
theorem flatten_32 : ∀ l : List (List Nat), (∀ cs ∈ l, cs.length = 32) → l.flatten.length = 32 * l.length := by
  intro l
  induction l with
  | nil => intro _; rfl
  | cons x l ih => intro h; rw [List.flatten_cons, List.length_append, ih (fun cs hc => h cs (by simp [hc])), h x (by simp), List.length_cons]; omega
theorem WrIs.turn (h : WrIs w base F g bs) {S : Nat → Prop} (ht : Turn S w w') (hS : ∀ k, S k → ¬ F k) : WrIs w' base F g bs := by
  obtain ⟨v, hv⟩ := h
  exact ⟨v, hv.turn ht hS⟩
theorem WrIs.nope (h : WrIs w base F g bs) (ht : Turn Nope w w') : WrIs w' base F g bs := h.turn ht (fun _ h => h.elim)
set_option maxHeartbeats 4000000 in
theorem sums_any (l : List (List Nat)) (hl : ∀ cs ∈ l, cs.length = 32) (hn : l.length ≤ 1000) (b : Nat) (lv : Value) (w : World) (ho : w.ownsRow b 33 32 lv l.length (l.flatMap u8s)) (hne : ∀ k, lv.ownBlock = some k → ¬ F k) (h : WrIs w base F g bs) (hb : bs.length ≤ 900000) :
    Calls Try.prog 19 #[.pointer (some ⟨g, 0, none⟩), lv] w fun e w' => e = .returned (.pointer (some ⟨g, 0, none⟩)) ∧ (∃ F' : Nat → Prop, WrIs w' base F' g (bs ++ (num l.length ++ l.flatten)) ∧ ∀ k, F' k → F k ∨ w.heap.size ≤ k) ∧ Turn F w w' := by
  obtain ⟨A, c, rfl, hc⟩ := own_slice ho
  have HO := Lib.hid ho
  have H := Lib.hid h
  have HL := Lib.hid hl
  have HNE := Lib.hid hne
  have HNL := Lib.hid (num_le l.length (by omega))
  clear ho h hl hne
  go_enter Try.func19, Try.ntmps19
  go_upto_region 3 with (first | (go_at_call 15; refine (num_any l.length (by omega) w H.out (by omega)).mono ?_; rintro e w1 ⟨rfl, ⟨F1, hw1, hk1⟩, ht1⟩; have HW1 := Lib.hid hw1; have HK1 := Lib.hid hk1; have HT1 := Lib.hid ht1; clear hw1 hk1 ht1))
  have HB := Lib.hid hb
  clear hb
  go_loopg [14] (l.length) (fun gk v14 wr => ∃ (i : Nat) (F' : Nat → Prop), v14 = .int .i64 (i : Int) ∧ Hid (gk + i = l.length ∧ ∀ k, F' k → F k ∨ w.heap.size ≤ k) ∧ WrIs wr base F' g (bs ++ (num l.length ++ (l.take i).flatten)) ∧ Turn F w wr)
  case atStart => exact ⟨0, F1, rfl, ⟨by omega, HK1.out⟩, by simpa using HW1.out, HT1.out⟩
  case round =>
    obtain ⟨i, F', rfl, hi, hw, ht⟩ := hrel
    have HW := Lib.hid hw
    have HT := Lib.hid ht
    clear hw ht
    rename World => wl
    by_cases hlt : i < l.length
    · obtain ⟨cs, hcs⟩ : ∃ cs, l[i]? = some cs := ⟨_, List.getElem?_eq_getElem hlt⟩
      have HCS := Lib.hid hcs
      have HC := Lib.hid (HL.out cs (List.mem_of_getElem? hcs))
      obtain ⟨q, rfl, hr⟩ := own_range (own_turn HO.out HT.out HNE.out) HL.out hcs
      have HR := Lib.hid hr
      clear hr hcs
      obtain ⟨V, hV⟩ : ∃ V, V = (u8s cs).toArray := ⟨_, rfl⟩
      have HVV := Lib.hid hV
      have hvs : V.size = 32 := by rw [hV]; simp [u8s_length, HC.out]
      have H1 := Lib.hid (show ∀ v ∈ V.toList, v.oneCell' = true by rw [hV]; intro u hu; simp [u8s] at hu; obtain ⟨x, _, rfl⟩ := hu; rfl)
      have HE : Hid (arrV cs = .agg V) := by show _ = _; rw [HVV.out]; rfl
      clear hV
      have b1 : decide ((i : Int) < (l.length : Int)) = true := by simp; omega
      have hi0 : (0 : Int) ≤ (i : Int) := by omega
      have hi1 : (i : Int) < (l.length : Int) := by omega
      have HLE : Hid ((bs ++ (num l.length ++ (l.take i).flatten)).length ≤ 1000000) := by
        have h1 := flatten_32 (l.take i) (fun cs h => HL.out cs (List.mem_of_mem_take h))
        have h2 := HNL.out
        have h3 := HB.out
        show _ ≤ _
        rw [List.length_append, List.length_append, h1, List.length_take]
        omega
      go_wp2_with (first
        | (refine wpList_load_mid rfl 33 _ rfl q (i * 32) rfl V.toList _ (by rw [HVV.out]; exact HR.out) Try.underlying33 rfl (by rw [Array.length_toList, hvs]; exact Try.info33) ?_)
        | (refine wpList_store33_new rfl _ _ rfl Z32 V rfl rfl Z32_size hvs H1.out ?_)
        | (refine wpList_load33 rfl _ rfl wl.heap.size V rfl (blk_new wl _) hvs ?_)
        | (go_at_call 18; rw [← HE.out]; refine (sum_any cs HC.out _ (F := F') (bs := bs ++ (num l.length ++ (l.take i).flatten)) (HW.out.nope ((Turn.refl _ _).alloc _)) HLE.out).mono ?_; rintro e w2 ⟨rfl, ⟨F2, hw2, hk2⟩, ht2⟩; have HW2 := Lib.hid hw2; have HK2 := Lib.hid hk2; have HT2 := Lib.hid ht2; clear hw2 hk2 ht2))
      go_roundg (l.length - (i + 1))
      case measure => have := hi.out.1; omega
      case rel =>
        refine ⟨i + 1, F2, by go_num, ⟨by have := hi.out.1; omega, fun k hk => ?_⟩, ?_, ?_⟩
        · rcases HK2.out k hk with h1 | h1
          · exact hi.out.2 k h1
          · right; have := HT.out.size; simp at h1; omega
        · have h1 := HW2.out
          rw [List.append_assoc, List.append_assoc] at h1
          rw [List.take_add_one, HCS.out]
          simpa using h1
        · exact HT.out.then ((Turn.alloc (Turn.refl F' wl) (.cells V 33)).trans HT2.out) hi.out.2
    · have b1 : decide ((i : Int) < (l.length : Int)) = false := by simp; omega
      have hEQ : l.take i = l := List.take_of_length_le (by omega)
      rw [hEQ] at HW
      clear hEQ
      go_wp2_with fail
      go_ret
      exact ⟨rfl, ⟨F', HW.out, hi.out.2⟩, HT.out⟩
end Go.Proofs.Ytiddipimbdffcaa
