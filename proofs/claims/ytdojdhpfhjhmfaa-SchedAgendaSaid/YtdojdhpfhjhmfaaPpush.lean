import Derived.Test.YtdojdhpfhjhmfaaDown
import Derived.Test.YtdojdhpfhjhmfaaQPlain
import Derived.Deep.RegionLaw
set_option linter.unusedVariables false
namespace Go.Proofs.Ytdojdhpfhjhmfaa
open Go.RowKit Go.Proofs.HeapPlain
theorem news_new (W : World) (cs : Array Value) (t : TypeId) : ∀ j u, cs.toList[j]? = some u → (W.alloc (.cells cs t)).cell? ((⟨W.heap.size, 0, none⟩ : Addr).add j) = some u := by
  intro j u hj
  rw [show (⟨W.heap.size, 0, none⟩ : Addr).add j = ⟨W.heap.size, j, none⟩ by unfold Addr.add; split <;> simp_all, blk_cell (blk_new W _)]
  simpa using hj
theorem Try.info84 : (Try.prog.info? 84).map (fun i => (i.zero, i.size, i.bytes)) = some (some (.agg #[.int .i64 0, .int .i64 0, .int .i64 0]), 3, 24) := by kernel_rfl
variable {w w' : World} {base p : Nat} {v : Value} {L L' : List It}
def itV (x : It) : Value := .agg #[.int .i64 x.tick, .int .i64 x.who, .int .i64 x.seq]
/-- The pile's own two blocks. -/
def FP (p : Nat) (v : Value) : Nat → Prop := fun k => k = p ∨ v.ownBlock = some k
theorem assert54 (v : Value) (W : World) : (Instr.typeAssert (.iface 84 v) 20 84 true).run Try.prog W = .ok (.tuple #[v, .bool true]) W := by kernel_rfl
attribute [local go_sem] assert54
theorem push_close {wa wb w6 : World} {x : It} {g cap : Nat} (hpa : Pl wa base p v L) (hta : Turn (FP p v) w wa) (hx : Turn Nope wa wb) (hg : wb.grownBy w6 v.ownBlock)
    (ho : w6.ownsRow base 84 3 (.slice (some ⟨g, 0, none⟩) (L.length + 1) cap) (L.length + 1) (L.flatMap itCells ++ [.int .i64 x.tick, .int .i64 x.who, .int .i64 x.seq]))
    (ha : v.ownBlock = some g ∨ g = wb.heap.size) :
    (∃ v', Pl (w6.setCell ⟨p, 0, none⟩ (.slice (some ⟨g, 0, none⟩) (L.length + 1) cap)) base p v' (L ++ [x]) ∧ ∀ k, FP p v' k → FP p v k ∨ w.heap.size ≤ k) ∧ Turn (FP p v) w (w6.setCell ⟨p, 0, none⟩ (.slice (some ⟨g, 0, none⟩) (L.length + 1) cap)) := by
  have hpb : Pl wb base p v L := hpa.nope hx
  have hp6 : w6.heap[p]? = some (.cells #[v] 68 (0, 0)) := blk_grown hpb.hp hg (fun e => hpb.ne e)
  have hgp : g ≠ p := by
    rintro rfl
    rcases ha with ha | ha
    · exact hpb.ne ha
    · have := blk_lt hpb.hp; omega
  have hr : PileRow (w6.setCell ⟨p, 0, none⟩ (.slice (some ⟨g, 0, none⟩) (L.length + 1) cap)) base (.slice (some ⟨g, 0, none⟩) (L.length + 1) cap) (L ++ [x]) := by
    unfold PileRow
    rw [List.length_append, List.flatMap_append]
    refine own_turn ho (S := At p) ((Turn.refl _ _).set_at _) fun k hk hk' => ?_
    have e1 : g = k := by simpa [Value.ownBlock] using hk
    exact hgp (e1.trans hk')
  have h6 : Turn (FP p v) w w6 := ((hta.trans (hx.mono fun _ h => h.elim)).grown hg fun k hk => .inl (.inr hk))
  refine ⟨⟨_, ⟨blk_set hp6 0 _, hr, ?_⟩, fun k hk => ?_⟩, Turn.setCell (p := ⟨p, 0, none⟩) h6 (.inl (.inl rfl)) _⟩
  · exact Nat.le_trans hpb.lo (Nat.le_trans hg.size (by simp [World.setCell]))
  · rcases hk with hk | hk
    · exact .inl (.inl hk)
    · have e1 : g = k := by simpa [Value.ownBlock] using hk
      subst e1
      rcases ha with ha | ha
      · exact .inl (.inr ha)
      · exact .inr (by rw [ha]; exact Nat.le_trans hta.size hx.size)
set_option maxRecDepth 8000 in
set_option maxHeartbeats 4000000 in
theorem ppush (h : Pl w base p v L) (hn : L.length ≤ 1000000) (x : It) :
    Calls Try.prog 84 #[.pointer (some ⟨p, 0, none⟩), .iface 84 (itV x)] w fun e w' => e = .returned (.tuple #[]) ∧ (∃ v', Pl w' base p v' (L ++ [x]) ∧ ∀ k, FP p v' k → FP p v k ∨ w.heap.size ≤ k) ∧ Turn (FP p v) w w' := by
  obtain ⟨tick, who, seq⟩ := x
  unfold itV
  dsimp only
  have HP := Lib.hid h
  clear h
  have HPL : Hid (p < w.heap.size) := blk_lt HP.out.hp
  obtain ⟨i54, hi54, hz54, hs54, hb54⟩ := info_parts Try.info84
  have I54 := Lib.hid (And.intro hi54 (And.intro hz54 (And.intro hs54 hb54)))
  clear hi54 hz54 hs54 hb54
  go_enter Try.func84, Try.ntmps84
  go_wp2_with fail
  have HPA : Hid (Pl (w.alloc (.cells #[.int .i64 tick, .int .i64 who, .int .i64 seq] 84)) base p v L) := HP.out.nope ((Turn.refl _ _).alloc _)
  have HBA := Lib.hid (blk_new w (.cells #[.int .i64 tick, .int .i64 who, .int .i64 seq] 84))
  have HTA : Hid (Turn (FP p v) w (w.alloc (.cells #[.int .i64 tick, .int .i64 who, .int .i64 seq] 84))) := (Turn.refl _ _).alloc _
  have HHB : Hid (v.ownBlock ≠ some w.heap.size) := fun e => Nat.lt_irrefl _ (World.ownsRow.lt HP.out.row _ e).2
  have HNP : Hid (v.ownBlock ≠ some p) := fun e => HPA.out.ne e
  generalize w.alloc (.cells #[.int .i64 tick, .int .i64 who, .int .i64 seq] 84) = wa at *
  have HAB : Hid (w.heap.size ≠ p) := by have := HPL.out; exact (by omega : w.heap.size ≠ p)
  have HLE := Lib.hid (HTA.out.size)
  generalize hab : w.heap.size = ab at *
  have SAT : Hid (∀ W : World, (W.heap[p]? = some (.cells #[v] 68 (0, 0)) ∧ W.heap[ab]? = some (.cells #[.int .i64 tick, .int .i64 who, .int .i64 seq] 84 (0, 0))) →
      W.cell? ⟨p, 0, none⟩ = some v ∧ W.frozen? ⟨p, 0, none⟩ = false ∧ W.cell? ⟨ab, 0, none⟩ = some (.int .i64 tick) ∧ W.cell? ⟨ab, 1, none⟩ = some (.int .i64 who) ∧ W.cell? ⟨ab, 2, none⟩ = some (.int .i64 seq)) := by
    rintro W ⟨h1, h2⟩
    exact ⟨by rw [blk_cell h1]; rfl, blk_frozen h1 0, by rw [blk_cell h2]; rfl, by rw [blk_cell h2]; rfl, by rw [blk_cell h2]; rfl⟩
  have HAB2 := Lib.hid hab
  clear hab
  obtain ⟨p0, p1, p2, p3, p4⟩ := SAT.out wa.drew ⟨blk_drew HPA.out.hp, blk_drew HBA.out⟩
  obtain ⟨q0, q1, q2, q3, q4⟩ := SAT.out (wa.drew.alloc (.cells #[.int .i64 tick, .int .i64 who, .int .i64 seq] 84)) ⟨blk_alloc (blk_drew HPA.out.hp) _, blk_alloc (blk_drew HBA.out) _⟩
  obtain ⟨s0, s1, s2, s3, s4⟩ := SAT.out (wa.alloc (.cells #[.int .i64 tick, .int .i64 who, .int .i64 seq] 84)).drew ⟨blk_alloc (blk_drew HPA.out.hp) _, blk_alloc (blk_drew HBA.out) _⟩
  go_region_law (first | (refine step_append_lies _ rfl (.tmp 15) (.tmp 17) 68 rfl base 84 i54 _ 3 24 Try.underlying68 I54.out.1 I54.out.2.1 I54.out.2.2.1 I54.out.2.2.2 rfl (by omega) v L.length (L.flatMap itCells) rfl (own_nope HPA.out.row ((Turn.refl _ _).drew.alloc _)) ⟨wa.heap.size, 0, none⟩ 1 1 [.int .i64 tick, .int .i64 who, .int .i64 seq] rfl rfl (news_new wa.drew _ 84) (by intro u hu; simp at hu; rcases hu with rfl | rfl | rfl <;> rfl) (by omega) (by show L.length + 1 ≤ 9223372036854775807; omega) (by omega) (HPA.out.nope ((Turn.refl _ _).drew.alloc _)).lo (wa.heap.size + 1) (by simp) ?_; intro g1 cap1 w6 hown hgr hat hlt; have HO6 := Lib.hid hown; have HG6 := Lib.hid hgr; have HA6 := Lib.hid hat; have HL6 := Lib.hid hlt; clear hown hgr hat hlt; have HR6 := Lib.hid (And.intro (blk_grown (blk_alloc (blk_drew HPA.out.hp) _) HG6.out HNP.out) (blk_grown (blk_alloc (blk_drew HBA.out) _) HG6.out HHB.out)); obtain ⟨r0, r1, r2, r3, r4⟩ := SAT.out _ HR6.out; clear p0 p1 p2 p3 p4 q0 q1 q2 q3 q4 s0 s1 s2 s3 s4))
  all_goals
    go_end0
    have HC := push_close (w := w) (x := ⟨tick, who, seq⟩) HPA.out HTA.out (by first | exact (Turn.refl _ _).drew.alloc _ | exact ((Turn.refl _ _).alloc _).drew) HG6.out HO6.out (HA6.out.imp id (fun e => e.trans (by simp)))
    exact ⟨rfl, HC⟩
end Go.Proofs.Ytdojdhpfhjhmfaa
