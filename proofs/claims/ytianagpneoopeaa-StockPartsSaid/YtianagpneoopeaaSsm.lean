/- Cut, Few, Inverse; the ops that come in to a law on shelves; what an inverse does. -/
import Derived.Test.YtianagpneoopeaaSsv
import Derived.Test.YtianagpneoopeaaOpen
set_option maxRecDepth 16000
set_option linter.unusedVariables false
set_option linter.unusedSimpArgs false
namespace Go.Proofs.Ytianagpneoopeaa
open Go.RowKit Go.ChangeShapes Go.WideShapes Go.Deep Go.Maps
def cutP (s : ByteArray) (n : Nat) : ByteArray := if n < s.size then s.extract 0 n else s
theorem cutP_size (s : ByteArray) (n : Nat) : (cutP s n).size ≤ n := by
  unfold cutP
  split
  · rw [ByteArray.size_extract]; omega
  · omega
set_option maxHeartbeats 4000000 in
theorem cut_any (s : ByteArray) (n : Nat) (hn : n ≤ 1000000) (w : World) : Calls Try.prog 14 #[.string s, .int .i64 n] w fun e w' => e = .returned (.string (cutP s n)) ∧ w' = w := by
  go_enter Try.func14, Try.ntmps14
  by_cases h : n < s.size
  · have b1 : decide ((n : Int) < (s.size : Int)) = true := by simp; omega
    have b1n : decide (n < s.size) = true := by simp; omega
    have h0 : (0 : Int) ≤ (n : Int) := by omega
    have h1 : (n : Int) ≤ (s.size : Int) := by omega
    have h2 : n ≤ s.size := by omega
    go_wp2_with fail
    go_ret
    exact ⟨by unfold cutP; rw [if_pos h]; rfl, rfl⟩
  · have b1 : decide ((n : Int) < (s.size : Int)) = false := by simp; omega
    have b1n : decide (n < s.size) = false := by simp; omega
    go_wp2_with fail
    go_ret
    exact ⟨by unfold cutP; rw [if_neg h]; rfl, rfl⟩
theorem few_any (k : Int) (S : ByteArray) (n : Int) (w : World) :
    Calls Try.prog 12 #[.agg #[.int .i64 k, .string S, .int .i64 n]] w fun e w' => e = .returned (.agg #[.int .i64 k, .string (cutP S 14), .int .i64 n]) ∧ Turn Nope w w' := by
  go_enter Try.func12, Try.ntmps12
  go_wp2_with (first | (go_at_call 14; refine (cut_any _ 14 (by omega) _).mono ?_; rintro e w1 ⟨rfl, rfl⟩))
  exact bodyPost_ret (v := .agg #[.int .i64 k, .string (cutP S 14), .int .i64 n]) (by simp [results, Try.results12, go_sem]) rfl ⟨rfl, ((Turn.refl _ _).alloc _).alloc _⟩
theorem inv_any (k : Int) (hk : k = 1 ∨ k = 2) (S : ByteArray) (n : Int) (w : World) :
    Calls Try.prog 13 #[.agg #[.int .i64 k, .string S, .int .i64 n]] w fun e w' => e = .returned (.agg #[.int .i64 (3 - k), .string S, .int .i64 n]) ∧ Turn Nope w w' := by
  rcases hk with rfl | rfl
  · go_enter Try.func13, Try.ntmps13
    go_wp2
    exact bodyPost_ret (v := .agg #[.int .i64 2, .string S, .int .i64 n]) (by simp [results, Try.results13, go_sem]) rfl ⟨rfl, ((Turn.refl _ _).alloc _).alloc _⟩
  · go_enter Try.func13, Try.ntmps13
    go_wp2
    exact bodyPost_ret (v := .agg #[.int .i64 1, .string S, .int .i64 n]) (by simp [results, Try.results13, go_sem]) rfl ⟨rfl, ((Turn.refl _ _).alloc _).alloc _⟩
def OpsIn (w : World) (a : Option Addr) (len : Nat) : Prop := len ≤ maxLen ∧ ∀ i, i < len → ∃ (ad : Addr) (k : Int) (S : ByteArray) (n : Int), a = some ad ∧ S.size ≤ maxLen ∧
  w.cell? (ad.add (i * 3)) = some (.int .i64 k) ∧ w.cell? ⟨(ad.add (i * 3)).block, (ad.add (i * 3)).off + 1, none⟩ = some (.string S) ∧
  w.cell? ⟨(ad.add (i * 3)).block, (ad.add (i * 3)).off + 2, none⟩ = some (.int .i64 n)
theorem OpsIn.later {w w' : World} {a : Option Addr} {len : Nat} (h : OpsIn w a len) (hb : Below w.heap.size w w') : OpsIn w' a len :=
  ⟨h.1, fun i hi => by
    obtain ⟨ad, k, S, n, e, hS, c0, c1, c2⟩ := h.2 i hi
    exact ⟨ad, k, S, n, e, hS, cell_later hb c0, cell_later hb c1, cell_later hb c2⟩⟩
theorem open_t33 {H : Type} {enc : TypeId × Value → H} {w : World} {a : Option Addr} {len cap : Nat} {d : DataW H} {p : List MemPlace} (h : DataW.Trod enc Try.prog w 0 (fun _ => true) true 33 (.slice a len cap) d p) : OpsIn w a len := by
  obtain ⟨hm, _, he⟩ := open_elems (sz := 3) Try.underlying33 (by kernel_rfl) h
  refine ⟨hm, fun i hi => ?_⟩
  obtain ⟨ad, cs, n, y, ha, hl, hc, ht⟩ := he i hi
  obtain ⟨xs, n', _, _, _, hxl, hf⟩ := DataW.trod_struct Try.underlying28 ht
  have hxl4 : xs.length = 3 := hxl
  match cs, hl with
  | [c0, c1, c2], _ =>
    have h3 : Try.prog.cellsOf 3 = 1 := by kernel_rfl
    have h9 : Try.prog.cellsOf 9 = 1 := by kernel_rfl
    have f0 : DataW.trod enc Try.prog w 0 (fun _ => true) true n' 3 [c0] = xs[0]? := (show ((([c0, c1, c2] : List Value).drop 0).take (Try.prog.cellsOf 3)) = [c0] by rw [h3]; rfl) ▸ hf 0 _ rfl
    have f1 : DataW.trod enc Try.prog w 0 (fun _ => true) true n' 9 [c1] = xs[1]? := (show ((([c0, c1, c2] : List Value).drop 1).take (Try.prog.cellsOf 9)) = [c1] by rw [h9]; rfl) ▸ hf 1 _ rfl
    have f2 : DataW.trod enc Try.prog w 0 (fun _ => true) true n' 3 [c2] = xs[2]? := (show ((([c0, c1, c2] : List Value).drop 2).take (Try.prog.cellsOf 3)) = [c2] by rw [h3]; rfl) ▸ hf 2 _ rfl
    obtain ⟨k, rfl, _⟩ := leaf_int Try.underlying3 f0 (by omega)
    obtain ⟨S, rfl, hS⟩ := leaf_str Try.underlying9 f1 (by omega)
    obtain ⟨n, rfl, _⟩ := leaf_int Try.underlying3 f2 (by omega)
    exact ⟨ad, k, S, n, ha, hS, hc 0 (by omega), by rw [← add_off _ _ 1 (by omega)]; exact hc 1 (by omega), by rw [← add_off _ _ 2 (by omega)]; exact hc 2 (by omega)⟩
variable {C : Nm → Int} {K : List Nm} {w0 w w' : World} {s mb n : Nat} {o : Op3}
theorem same_len {L K : List Nm} (hL : L.Nodup) (hK : K.Nodup) (h : ∀ x, x ∈ L ↔ x ∈ K) : L.Perm K :=
  List.perm_iff_count.2 fun x => by
    rw [hL.count, hK.count]
    by_cases hx : x ∈ L
    · rw [if_pos hx, if_pos ((h x).1 hx)]
    · rw [if_neg hx, if_neg fun e => hx ((h x).2 e)]
theorem Good.perm {K' : List Nm} (h : Good C K) (h' : Good C K') : K.Perm K' := same_len h.nd h'.nd fun x => by rw [h.mem, h'.mem]
theorem saved_same {K' : List Nm} (h : Good C K) (h' : Good C K') : savedS C K = savedS C K' := by
  unfold savedS
  rw [srt_perm (h.perm h')]
def inv (o : Op3) : Op3 := ⟨3 - o.k, o.nm, o.N⟩
/-- BACK. -/
theorem inv_back (h : Good C K) (hd : doE C K o = 0) : ∀ K', Good (newC C o) K' → doE (newC C o) K' (inv o) = 0 ∧ newC (newC C o) (inv o) = C := by
  intro K' hg
  obtain ⟨hk, h1, h2, h3, h4, ht, ha⟩ := doE_ok hd
  have hlen := (hg.perm (h.put hd)).length_eq
  have hlo := h.lo o.nm
  have hhi := h.hi o.nm
  have hc : chk (inv o) = 0 := by
    unfold chk inv
    rw [if_neg (by show ¬ (3 - o.k ≠ 1 ∧ 3 - o.k ≠ 2); omega), if_neg (fun e => by
      rcases e with e | e | e | e
      · exact h1 e
      · have e : 12 < o.nm.length := e; omega
      · have e : o.N < 1 := e; omega
      · have e : 1099511627776 < o.N := e; omega)]
  have hat : newC C o o.nm = if o.k = 2 then C o.nm - o.N else C o.nm + o.N := newC_at
  constructor
  · unfold doE
    rw [if_neg (by rw [hc]; decide)]
    by_cases hk2 : o.k = 2
    · have ht := ht hk2
      rw [if_pos hk2] at hat
      have e1 : ¬ (inv o).k = 2 := by show ¬ 3 - o.k = 2; omega
      rw [if_neg e1]
      have e2 : ¬ (newC C o (inv o).nm = 0 ∧ 16 ≤ K'.length) := by
        rintro ⟨e3, e4⟩
        have e3 : newC C o o.nm = 0 := e3
        rw [hat] at e3
        have hK : newK C K o = K.erase o.nm := by unfold newK; rw [if_pos hk2, if_pos (by omega)]
        rw [hK, List.length_erase_of_mem ((h.mem _).2 ht.1)] at hlen
        have := h.le
        have hp : 0 < K.length := List.length_pos_of_mem ((h.mem _).2 ht.1)
        omega
      rw [if_neg e2, if_neg]
      show ¬ 1099511627776 < newC C o o.nm + o.N
      rw [hat]; omega
    · rw [if_neg hk2] at hat
      have e1 : (inv o).k = 2 := by show 3 - o.k = 2; omega
      rw [if_pos e1, if_neg (by show ¬ newC C o o.nm = 0; rw [hat]; omega), if_neg (by show ¬ newC C o o.nm < o.N; rw [hat]; omega)]
  · funext y
    by_cases hy : y = o.nm
    · subst hy
      rw [show newC (newC C o) (inv o) o.nm = if (inv o).k = 2 then newC C o o.nm - o.N else newC C o o.nm + o.N from newC_at (o := inv o), hat]
      by_cases hk2 : o.k = 2
      · rw [if_pos hk2, if_neg (by show ¬ 3 - o.k = 2; omega)]; omega
      · rw [if_neg hk2, if_pos (by show 3 - o.k = 2; omega)]; omega
    · rw [newC_far (o := inv o) hy, newC_far hy]
theorem arr_nm (x : ByteArray) : (⟨(nmOf x).toArray⟩ : ByteArray) = x := by unfold nmOf; simp
end Go.Proofs.Ytianagpneoopeaa
