import Derived.Test.YtpcfgigmchndjaaDo
import Derived.Test.YtpcfgigmchndjaaSwaps
namespace Go.Proofs.Ytpcfgigmchndjaa
open Go.RowKit Go.Maps
variable {w w' : World} {base : Nat} {F : Nat → Prop} {g bc bm : Nat} {vl : Value} {cs : List ByteArray} {cl log : List Dn}
/-- Cut's answer. -/
def cut8 (s : ByteArray) : ByteArray := if 8 < s.size then s.extract 0 8 else s
set_option maxHeartbeats 4000000 in
theorem cut_any (s : ByteArray) (w : World) : Calls Try.prog 14 #[.string s, .int .i64 8] w fun e w' => e = .returned (.string (cut8 s)) ∧ Turn Nope w w' := by
  by_cases h : 8 < s.size
  · have hb : decide ((8 : Int) < (s.size : Int)) = true := by simp; omega
    have hb2 : decide (8 < s.size) = true := by simp; omega
    have hle : (8 : Int) ≤ (s.size : Int) := by omega
    go_enter Try.func14, Try.ntmps14
    go_wp2_with (go_quiet (fail))
    go_ret
    exact ⟨by unfold cut8; rw [if_pos h]; rfl, by repeat (first | exact Turn.refl _ _ | apply Turn.alloc | apply Turn.drewN | apply Turn.drew)⟩
  · have hb : decide ((8 : Int) < (s.size : Int)) = false := by simp; omega
    have hb2 : decide (8 < s.size) = false := by simp; omega
    go_enter Try.func14, Try.ntmps14
    go_wp2_with (go_quiet (fail))
    go_ret
    exact ⟨by unfold cut8; rw [if_neg h]; rfl, by repeat (first | exact Turn.refl _ _ | apply Turn.alloc | apply Turn.drewN | apply Turn.drew)⟩
/-- A Memory made behind w0, all that a law turns. -/
def Mem (w0 : World) (g : Nat) (cs : List ByteArray) (log : List Dn) (w : World) : Prop := (∃ F, MemIs w w0.heap.size F g cs log) ∧ Turn Nope w0 w
variable {w0 : World}
theorem Mem.nope (h : Mem w0 g cs log w) (ht : Turn Nope w w') : Mem w0 g cs log w' := ⟨h.1.imp fun _ h => h.nope ht, h.2.trans ht⟩
theorem Mem.turn (h : Mem w0 g cs log w) : Turn Nope w0 w := h.2
theorem Mem.of_new (ht : Turn Nope w0 w) (hm : MemIs w' w.heap.size (fun k => w.heap.size ≤ k ∧ k < w'.heap.size) g cs log) (ht' : Turn Nope w w') : Mem w0 g cs log w' := by
  obtain ⟨bc, bm, vl, h⟩ := hm
  refine ⟨⟨_, bc, bm, vl, ⟨h.hd, h.cells, h.cnt, ⟨h.row.1, ?_⟩, h.fg, h.fc, h.fm, h.fv, h.lt, fun k hk => Nat.le_trans ht.size (h.lo k hk)⟩⟩, ht.trans ht'⟩
  rcases h.row.2 with h1 | ⟨g', cap, cur, h1, h2, h3⟩
  · exact .inl h1
  · exact .inr ⟨g', cap, cur, h1, Nat.le_trans ht.size h2, h3⟩
theorem Mem.of_do {cs' : List ByteArray} {log' : List Dn} {F : Nat → Prop} (hm : MemIs w w0.heap.size F g cs log) (ht : Turn Nope w0 w) (h : (∃ F' : Nat → Prop, MemIs w' w0.heap.size F' g cs' log' ∧ ∀ k, F' k → F k ∨ w.heap.size ≤ k) ∧ Turn F w w') : Mem w0 g cs' log' w' := by
  obtain ⟨⟨F', h1, _⟩, h2⟩ := h
  exact ⟨⟨F', h1⟩, ht.then h2 (fun k hk => .inr (hm.lo k hk))⟩
theorem mem_new (n : Nat) (hn : n ≤ 65536) (w0 w : World) (ht : Turn Nope w0 w) : Calls Try.prog 9 #[.int .i64 (n : Int)] w fun e w' => ∃ g, e = .returned (.pointer (some ⟨g, 0, none⟩)) ∧ Mem w0 g (List.replicate n ⟨#[]⟩) [] w' := by
  refine (new_any n hn w).mono ?_
  rintro e w' ⟨g, rfl, hm, ht'⟩
  exact ⟨g, rfl, Mem.of_new ht hm ht'⟩
theorem mem_read (w : World) (hm : Mem w0 g cs log w) (hl : log.length ≤ 1000) (who : Int) (hw : (Lit.int .i64 who).wf = true) (j : Nat) (s : ByteArray) (hj : cs[j]? = some s) (old nw : ByteArray) :
    Calls Try.prog 10 #[.pointer (some ⟨g, 0, none⟩), .int .i64 who, accV 1 (j : Int) old nw] w fun e w' => e = .returned (.tuple #[.string s, .bool true, .int .i64 0]) ∧ Mem w0 g cs (log ++ [⟨who, 1, j, old, nw, true⟩]) w' := by
  obtain ⟨⟨F, hm⟩, ht⟩ := hm
  refine (do_read w hm hl who hw j s hj old nw).mono ?_
  rintro e w' ⟨rfl, h⟩
  exact ⟨rfl, Mem.of_do hm ht h⟩
theorem mem_write (w : World) (hm : Mem w0 g cs log w) (hl : log.length ≤ 1000) (who : Int) (hw : (Lit.int .i64 who).wf = true) (j : Nat) (s : ByteArray) (hj : cs[j]? = some s) (old nw : ByteArray) :
    Calls Try.prog 10 #[.pointer (some ⟨g, 0, none⟩), .int .i64 who, accV 2 (j : Int) old nw] w fun e w' => e = .returned (.tuple #[.string s, .bool true, .int .i64 0]) ∧ Mem w0 g (cs.set j nw) (log ++ [⟨who, 2, j, old, nw, true⟩]) w' := by
  obtain ⟨⟨F, hm⟩, ht⟩ := hm
  refine (do_write w hm hl who hw j s hj old nw).mono ?_
  rintro e w' ⟨rfl, h⟩
  exact ⟨rfl, Mem.of_do hm ht h⟩
theorem mem_swap (w : World) (hm : Mem w0 g cs log w) (hl : log.length ≤ 1000) (who : Int) (hw : (Lit.int .i64 who).wf = true) (j : Nat) (s : ByteArray) (hj : cs[j]? = some s) (old nw : ByteArray) (ho : s = old) :
    Calls Try.prog 10 #[.pointer (some ⟨g, 0, none⟩), .int .i64 who, accV 3 (j : Int) old nw] w fun e w' => e = .returned (.tuple #[.string s, .bool true, .int .i64 0]) ∧ Mem w0 g (cs.set j nw) (log ++ [⟨who, 3, j, old, nw, true⟩]) w' := by
  obtain ⟨⟨F, hm⟩, ht⟩ := hm
  refine (do_swap w hm hl who hw j s hj old nw ho).mono ?_
  rintro e w' ⟨rfl, h⟩
  exact ⟨rfl, Mem.of_do hm ht h⟩
theorem mem_miss (w : World) (hm : Mem w0 g cs log w) (hl : log.length ≤ 1000) (who : Int) (hw : (Lit.int .i64 who).wf = true) (j : Nat) (s : ByteArray) (hj : cs[j]? = some s) (old nw : ByteArray) (ho : s ≠ old) :
    Calls Try.prog 10 #[.pointer (some ⟨g, 0, none⟩), .int .i64 who, accV 3 (j : Int) old nw] w fun e w' => e = .returned (.tuple #[.string s, .bool false, .int .i64 0]) ∧ Mem w0 g cs (log ++ [⟨who, 3, j, old, nw, false⟩]) w' := by
  obtain ⟨⟨F, hm⟩, ht⟩ := hm
  refine (do_miss w hm hl who hw j s hj old nw ho).mono ?_
  rintro e w' ⟨rfl, h⟩
  exact ⟨rfl, Mem.of_do hm ht h⟩
theorem mem_look (w : World) (hm : Mem w0 g cs log w) (j : Nat) (s : ByteArray) (hj : cs[j]? = some s) : Calls Try.prog 15 #[.pointer (some ⟨g, 0, none⟩), .int .i64 (j : Int)] w fun e w' => e = .returned (.string s) ∧ Mem w0 g cs log w' := by
  obtain ⟨F, h⟩ := hm.1
  refine (look_in w h j s hj).mono ?_
  rintro e w' ⟨rfl, h⟩
  exact ⟨rfl, hm.nope h⟩
theorem mem_swaps (w : World) (hm : Mem w0 g cs log w) (hl : log.length ≤ 1000) (cell : Int) : Calls Try.prog 16 #[.pointer (some ⟨g, 0, none⟩), .int .i64 cell] w fun e w' => e = .returned (.int .i64 (swFold cell log).1) ∧ Mem w0 g cs log w' := by
  obtain ⟨F, h⟩ := hm.1
  refine (swaps_any w h hl cell).mono ?_
  rintro e w' ⟨rfl, h⟩
  exact ⟨rfl, hm.nope h⟩
theorem mem_len (w : World) (hm : Mem w0 g cs log w) : Calls Try.prog 13 #[.pointer (some ⟨g, 0, none⟩)] w fun e w' => e = .returned (.int .i64 cs.length) ∧ w' = w := by
  obtain ⟨F, h⟩ := hm.1
  exact len_any w h
set_option maxHeartbeats 4000000 in
theorem awake_any (w : World) : Calls Try.prog 8 #[] w fun e w' => e = .returned (.bool true) ∧ Turn Nope w w' := by
  go_enter Try.func8, Try.ntmps8
  go_wp2_with fail
  refine (mem_new 2 (by omega) w _ (Turn.refl _ _)).mono ?_
  rintro e w1 ⟨g, rfl, hm⟩
  have HM1 := Lib.hid hm
  clear hm
  go_wp2_with fail
  refine (mem_swap _ HM1.out (by decide) 1 (by decide) 0 ⟨#[]⟩ rfl ⟨#[]⟩ ⟨#[97]⟩ rfl).mono ?_
  rintro e w2 ⟨rfl, hm⟩
  have HM2 := Lib.hid hm
  clear hm HM1
  go_wp2_with fail
  refine (mem_miss _ HM2.out (by decide) 2 (by decide) 0 ⟨#[97]⟩ rfl ⟨#[]⟩ ⟨#[98]⟩ (by intro h; simp at h)).mono ?_
  rintro e w3 ⟨rfl, hm⟩
  have HM3 := Lib.hid hm
  clear hm HM2
  go_wp2_with fail
  refine (mem_look _ HM3.out 0 ⟨#[97]⟩ rfl).mono ?_
  rintro e w4 ⟨rfl, hm⟩
  have HM4 := Lib.hid hm
  clear hm HM3
  go_wp2_with fail
  refine (mem_len _ HM4.out).mono ?_
  rintro e w5 ⟨rfl, rfl⟩
  go_wp2_with fail
  go_ret
  exact ⟨rfl, HM4.out.turn⟩
end Go.Proofs.Ytpcfgigmchndjaa
