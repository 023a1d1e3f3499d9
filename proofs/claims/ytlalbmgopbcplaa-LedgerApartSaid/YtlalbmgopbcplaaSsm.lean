/- Cut, Few, Inverse; the ops that come in to a law on books; what an inverse does. -/
import Derived.Test.YtlalbmgopbcplaaSsv
import Derived.Test.YtlalbmgopbcplaaOpen
set_option maxRecDepth 16000
set_option linter.unusedVariables false
set_option linter.unusedSimpArgs false
namespace Go.Proofs.Ytlalbmgopbcplaa
open Go.RowKit Go.ChangeShapes Go.WideShapes Go.Deep Go.Maps
def cutP (s : ByteArray) (n : Nat) : ByteArray := if n < s.size then s.extract 0 n else s
theorem cutP_size (s : ByteArray) (n : Nat) : (cutP s n).size ≤ n := by
  unfold cutP
  split
  · rw [ByteArray.size_extract]; omega
  · omega
set_option maxHeartbeats 4000000 in
theorem cut_any (s : ByteArray) (n : Nat) (hn : n ≤ 1000000) (w : World) : Calls Try.prog 21 #[.string s, .int .i64 n] w fun e w' => e = .returned (.string (cutP s n)) ∧ w' = w := by
  go_enter Try.func21, Try.ntmps21
  by_cases h : n < s.size
  · have b1 : decide ((n : Int) < (s.size : Int)) = true := by simp; omega
    have b1n : decide (n < s.size) = true := by simp; omega
    have h0 : (0 : Int) ≤ (n : Int) := by omega
    have h1 : (n : Int) ≤ (s.size : Int) := by omega
    have h2 : n ≤ s.size := by omega
    go_wp2_with fail
    go_ret
    exact ⟨by unfold cutP; rw [if_pos h]; rfl, rfl⟩
  · have b1 : decide ((n : Int) < (s.size : Int)) = false := by simp; omega
    have b1n : decide (n < s.size) = false := by simp; omega
    go_wp2_with fail
    go_ret
    exact ⟨by unfold cutP; rw [if_neg h]; rfl, rfl⟩
set_option maxHeartbeats 4000000 in
theorem few_any (k : Int) (S T : ByteArray) (n : Int) (w : World) :
    Calls Try.prog 9 #[.agg #[.int .i64 k, .string S, .string T, .int .i64 n]] w fun e w' => e = .returned (.agg #[.int .i64 k, .string (cutP S 14), .string (cutP T 14), .int .i64 n]) ∧ Turn Nope w w' := by
  go_enter Try.func9, Try.ntmps9
  go_wp2_with (first | (go_region_with (first | (go_at_call 21; refine (cut_any _ 14 (by omega) _).mono ?_; rintro e w1 ⟨rfl, rfl⟩))))
  all_goals
    go_wp2_with fail
    exact bodyPost_ret (v := .agg #[.int .i64 k, .string (cutP S 14), .string (cutP T 14), .int .i64 n]) (by simp [results, Try.results9, go_sem]) rfl ⟨rfl, by repeat (first | exact Turn.refl _ _ | apply Turn.drewN | apply Turn.drew | apply Turn.alloc)⟩
def inv (o : Op4) : Op4 := if o.k = 1 then ⟨2, o.nm, [], 0⟩ else if o.k = 2 then ⟨1, o.nm, [], 0⟩ else ⟨3, o.to, o.nm, o.N⟩
def aB (o : Op4) : Value := .agg #[.int .i64 o.k, .string ⟨o.nm.toArray⟩, .string ⟨o.to.toArray⟩, .int .i64 o.N]
theorem arr_nm (x : ByteArray) : (⟨(nmOf x).toArray⟩ : ByteArray) = x := by unfold nmOf; simp
theorem inv_any (k : Int) (hk : k = 1 ∨ k = 2 ∨ k = 3) (S T : ByteArray) (n : Int) (w : World) :
    Calls Try.prog 11 #[.agg #[.int .i64 k, .string S, .string T, .int .i64 n]] w fun e w' => e = .returned (aB (inv ⟨k, nmOf S, nmOf T, n⟩)) ∧ Turn Nope w w' := by
  rcases hk with rfl | rfl | rfl
  · have e1 : aB (inv ⟨1, nmOf S, nmOf T, n⟩) = .agg #[.int .i64 2, .string S, .string ⟨#[]⟩, .int .i64 0] := by
      show Value.agg #[.int .i64 2, .string ⟨(nmOf S).toArray⟩, .string ⟨[].toArray⟩, .int .i64 0] = _
      rw [arr_nm]
    rw [e1]
    go_enter Try.func11, Try.ntmps11
    go_wp2
    exact bodyPost_ret (v := .agg #[.int .i64 2, .string S, .string ⟨#[]⟩, .int .i64 0]) (by simp [results, Try.results11, go_sem]) rfl ⟨rfl, ((Turn.refl _ _).alloc _).alloc _⟩
  · have e1 : aB (inv ⟨2, nmOf S, nmOf T, n⟩) = .agg #[.int .i64 1, .string S, .string ⟨#[]⟩, .int .i64 0] := by
      show Value.agg #[.int .i64 1, .string ⟨(nmOf S).toArray⟩, .string ⟨[].toArray⟩, .int .i64 0] = _
      rw [arr_nm]
    rw [e1]
    go_enter Try.func11, Try.ntmps11
    go_wp2
    exact bodyPost_ret (v := .agg #[.int .i64 1, .string S, .string ⟨#[]⟩, .int .i64 0]) (by simp [results, Try.results11, go_sem]) rfl ⟨rfl, ((Turn.refl _ _).alloc _).alloc _⟩
  · have e1 : aB (inv ⟨3, nmOf S, nmOf T, n⟩) = .agg #[.int .i64 3, .string T, .string S, .int .i64 n] := by
      show Value.agg #[.int .i64 3, .string ⟨(nmOf T).toArray⟩, .string ⟨(nmOf S).toArray⟩, .int .i64 n] = _
      rw [arr_nm, arr_nm]
    rw [e1]
    go_enter Try.func11, Try.ntmps11
    go_wp2
    exact bodyPost_ret (v := .agg #[.int .i64 3, .string T, .string S, .int .i64 n]) (by simp [results, Try.results11, go_sem]) rfl ⟨rfl, ((Turn.refl _ _).alloc _).alloc _⟩
def OpsIn (w : World) (a : Option Addr) (len : Nat) : Prop := len ≤ maxLen ∧ ∀ i, i < len → ∃ (ad : Addr) (k : Int) (S T : ByteArray) (n : Int), a = some ad ∧ (S.size ≤ maxLen ∧ T.size ≤ maxLen) ∧
  w.cell? (ad.add (i * 4)) = some (.int .i64 k) ∧ w.cell? ⟨(ad.add (i * 4)).block, (ad.add (i * 4)).off + 1, none⟩ = some (.string S) ∧
  w.cell? ⟨(ad.add (i * 4)).block, (ad.add (i * 4)).off + 2, none⟩ = some (.string T) ∧ w.cell? ⟨(ad.add (i * 4)).block, (ad.add (i * 4)).off + 3, none⟩ = some (.int .i64 n)
theorem OpsIn.later {w w' : World} {a : Option Addr} {len : Nat} (h : OpsIn w a len) (hb : Below w.heap.size w w') : OpsIn w' a len :=
  ⟨h.1, fun i hi => by
    obtain ⟨ad, k, S, T, n, e, hS, c0, c1, c2, c3⟩ := h.2 i hi
    exact ⟨ad, k, S, T, n, e, hS, cell_later hb c0, cell_later hb c1, cell_later hb c2, cell_later hb c3⟩⟩
theorem open_t22 {H : Type} {enc : TypeId × Value → H} {w : World} {a : Option Addr} {len cap : Nat} {d : DataW H} {p : List MemPlace} (h : DataW.Trod enc Try.prog w 0 (fun _ => true) true 22 (.slice a len cap) d p) : OpsIn w a len := by
  obtain ⟨hm, _, he⟩ := open_elems (sz := 4) Try.underlying22 (by kernel_rfl) h
  refine ⟨hm, fun i hi => ?_⟩
  obtain ⟨ad, cs, n, y, ha, hl, hc, ht⟩ := he i hi
  obtain ⟨xs, n', _, _, _, hxl, hf⟩ := DataW.trod_struct Try.underlying29 ht
  have hxl4 : xs.length = 4 := hxl
  match cs, hl with
  | [c0, c1, c2, c3], _ =>
    have h3 : Try.prog.cellsOf 3 = 1 := by kernel_rfl
    have h9 : Try.prog.cellsOf 9 = 1 := by kernel_rfl
    have f0 : DataW.trod enc Try.prog w 0 (fun _ => true) true n' 3 [c0] = xs[0]? := (show ((([c0, c1, c2, c3] : List Value).drop 0).take (Try.prog.cellsOf 3)) = [c0] by rw [h3]; rfl) ▸ hf 0 _ rfl
    have f1 : DataW.trod enc Try.prog w 0 (fun _ => true) true n' 9 [c1] = xs[1]? := (show ((([c0, c1, c2, c3] : List Value).drop 1).take (Try.prog.cellsOf 9)) = [c1] by rw [h9]; rfl) ▸ hf 1 _ rfl
    have f2 : DataW.trod enc Try.prog w 0 (fun _ => true) true n' 9 [c2] = xs[2]? := (show ((([c0, c1, c2, c3] : List Value).drop 2).take (Try.prog.cellsOf 9)) = [c2] by rw [h9]; rfl) ▸ hf 2 _ rfl
    have f3 : DataW.trod enc Try.prog w 0 (fun _ => true) true n' 3 [c3] = xs[3]? := (show ((([c0, c1, c2, c3] : List Value).drop 3).take (Try.prog.cellsOf 3)) = [c3] by rw [h3]; rfl) ▸ hf 3 _ rfl
    obtain ⟨k, rfl, _⟩ := leaf_int Try.underlying3 f0 (by omega)
    obtain ⟨S, rfl, hS⟩ := leaf_str Try.underlying9 f1 (by omega)
    obtain ⟨T, rfl, hT⟩ := leaf_str Try.underlying9 f2 (by omega)
    obtain ⟨n, rfl, _⟩ := leaf_int Try.underlying3 f3 (by omega)
    exact ⟨ad, k, S, T, n, ha, ⟨hS, hT⟩, hc 0 (by omega), by rw [← add_off _ _ 1 (by omega)]; exact hc 1 (by omega), by rw [← add_off _ _ 2 (by omega)]; exact hc 2 (by omega), by rw [← add_off _ _ 3 (by omega)]; exact hc 3 (by omega)⟩
variable {C : Nm → Int} {K : List Nm} {w0 w w' : World} {s mb n : Nat} {o : Op4}
theorem saved_same {K' : List Nm} (h : K.Perm K') : savedS C K = savedS C K' := by
  unfold savedS
  rw [accs_perm h]
theorem newK_perm {K' : List Nm} (h : K.Perm K') : (newK K o).Perm (newK K' o) := by
  unfold newK
  split
  · exact h.cons _
  · split
    · exact h.erase _
    · exact h
/-- BACK. -/
theorem inv_back (h : Book C K) (hd : doE C K o = 0) : ∀ K', K'.Perm (newK K o) → doE (newC C o) K' (inv o) = 0 ∧ newC (newC C o) (inv o) = C ∧ (newK K' (inv o)).Perm K := by
  intro K' hp
  obtain ⟨hc, h1, h2, h3⟩ := doE_ok hd
  obtain ⟨c1, c2, c3, c4, c5, c6⟩ := chk_ok hc
  have hlen := hp.length_eq
  by_cases hk3 : o.k = 3
  · obtain ⟨a1, a2, a3, a4⟩ := h3 hk3
    obtain ⟨b1, b2, b3⟩ := c5 hk3
    have hi : inv o = ⟨3, o.to, o.nm, o.N⟩ := by unfold inv; rw [if_neg (by omega), if_neg (by omega)]
    have hK : newK K o = K := by unfold newK; rw [if_neg (by omega), if_neg (by omega)]
    rw [hK] at hp
    have hC : newC C o = fun y => if y = o.to then C o.to + o.N else if y = o.nm then C o.nm - o.N else C y := newC_move hk3
    have v1 : newC C o o.to = C o.to + o.N := by rw [hC]; show (if o.to = o.to then _ else _) = _; rw [if_pos rfl]
    have v2 : newC C o o.nm = C o.nm - o.N := by rw [hC]; show (if o.nm = o.to then _ else if o.nm = o.nm then _ else _) = _; rw [if_neg b1, if_pos rfl]
    rw [hi]
    refine ⟨?_, ?_, ?_⟩
    · unfold doE
      have hch : chk ⟨3, o.to, o.nm, o.N⟩ = 0 := by
        unfold chk
        rw [if_neg (show ¬ ((3 : Int) < 1 ∨ 3 < (3 : Int)) by decide), if_neg (show ¬ (12 < o.to.length ∨ 12 < o.nm.length) by omega), if_neg (show ¬ ((3 : Int) = 3 ∧ (o.to = o.nm ∨ o.N < 1 ∨ 1099511627776 < o.N)) from fun e => by rcases e.2 with e | e | e; exact b1 e.symm; omega; omega), if_neg (show ¬ ((3 : Int) ≠ 3 ∧ _) from fun e => e.1 rfl)]
      rw [if_neg (by rw [hch]; decide), if_neg (show ¬ (3 : Int) = 1 by decide), if_neg (show ¬ (o.to ∉ K') from fun e => e (hp.mem_iff.2 a2)), if_neg (show ¬ (3 : Int) = 2 by decide), if_neg (show ¬ (o.nm ∉ K') from fun e => e (hp.mem_iff.2 a1)), if_neg (show ¬ (o.to ≠ [] ∧ newC C o o.to < o.N) from fun e => by have := h.lo _ e.1; have := e.2; omega), if_neg (show ¬ (o.nm ≠ [] ∧ 1099511627776 < newC C o o.nm + o.N) from fun e => by have := h.hi _ e.1; have := e.2; omega)]
    · rw [newC_move (o := ⟨3, o.to, o.nm, o.N⟩) rfl]
      funext y
      show (if y = o.nm then newC C o o.nm + o.N else if y = o.to then newC C o o.to - o.N else newC C o y) = C y
      by_cases hy : y = o.nm
      · rw [if_pos hy, v2, hy]; omega
      · rw [if_neg hy]
        by_cases hy2 : y = o.to
        · rw [if_pos hy2, v1, hy2]; omega
        · rw [if_neg hy2, hC]
          show (if y = o.to then _ else if y = o.nm then _ else _) = _
          rw [if_neg hy2, if_neg hy]
    · unfold newK
      rw [if_neg (show ¬ (3 : Int) = 1 by decide), if_neg (show ¬ (3 : Int) = 2 by decide)]
      exact hp
  · obtain ⟨b1, b2, b3⟩ := c6 hk3
    have hC : newC C o = C := newC_stay hk3
    rw [hC]
    by_cases hk1 : o.k = 1
    · obtain ⟨a1, a2⟩ := h1 hk1
      have hi : inv o = ⟨2, o.nm, [], 0⟩ := by unfold inv; rw [if_pos hk1]
      have hK : newK K o = o.nm :: K := by unfold newK; rw [if_pos hk1]
      rw [hK] at hp
      rw [hi]
      refine ⟨?_, newC_stay (show ¬ (2 : Int) = 3 by decide), ?_⟩
      · unfold doE
        have hch : chk ⟨2, o.nm, [], 0⟩ = 0 := by
          unfold chk
          rw [if_neg (show ¬ ((2 : Int) < 1 ∨ 3 < (2 : Int)) by decide), if_neg (show ¬ (12 < o.nm.length ∨ 12 < ([] : Nm).length) from fun e => by rcases e with e | e; omega; simp at e), if_neg (show ¬ ((2 : Int) = 3 ∧ _) from fun e => by have := e.1; omega), if_neg (show ¬ ((2 : Int) ≠ 3 ∧ (o.nm = [] ∨ ([] : Nm) ≠ [] ∨ (0 : Int) ≠ 0)) from fun e => by rcases e.2 with e | e | e; exact b1 e; exact e rfl; exact e rfl)]
        rw [if_neg (by rw [hch]; decide), if_neg (show ¬ (2 : Int) = 1 by decide), if_neg (show ¬ (o.nm ∉ K') from fun e => e (hp.mem_iff.2 List.mem_cons_self)), if_pos rfl, if_neg (show ¬ (C o.nm ≠ 0) from fun e => e (h.out _ a1))]
      · unfold newK
        rw [if_neg (show ¬ (2 : Int) = 1 by decide), if_pos rfl]
        have := hp.erase o.nm
        rwa [List.erase_cons_head] at this
    · have hk2 : o.k = 2 := by omega
      obtain ⟨a1, a2⟩ := h2 hk2
      have hi : inv o = ⟨1, o.nm, [], 0⟩ := by unfold inv; rw [if_neg hk1, if_pos hk2]
      have hK : newK K o = K.erase o.nm := by unfold newK; rw [if_neg hk1, if_pos hk2]
      rw [hK] at hp hlen
      rw [hi]
      have hpos := List.length_pos_of_mem a1
      refine ⟨?_, newC_stay (show ¬ (1 : Int) = 3 by decide), ?_⟩
      · unfold doE
        have hch : chk ⟨1, o.nm, [], 0⟩ = 0 := by
          unfold chk
          rw [if_neg (show ¬ ((1 : Int) < 1 ∨ 3 < (1 : Int)) by decide), if_neg (show ¬ (12 < o.nm.length ∨ 12 < ([] : Nm).length) from fun e => by rcases e with e | e; omega; simp at e), if_neg (show ¬ ((1 : Int) = 3 ∧ _) from fun e => by have := e.1; omega), if_neg (show ¬ ((1 : Int) ≠ 3 ∧ (o.nm = [] ∨ ([] : Nm) ≠ [] ∨ (0 : Int) ≠ 0)) from fun e => by rcases e.2 with e | e | e; exact b1 e; exact e rfl; exact e rfl)]
        rw [if_neg (by rw [hch]; decide), if_pos rfl, if_neg (show ¬ (o.nm ∈ K') from fun e => h.nd.not_mem_erase (hp.mem_iff.1 e)), if_neg (by rw [hlen, List.length_erase_of_mem a1]; have := h.le; omega)]
      · unfold newK
        rw [if_pos rfl]
        exact (hp.cons o.nm).trans (List.perm_cons_erase a1).symm
end Go.Proofs.Ytlalbmgopbcplaa
