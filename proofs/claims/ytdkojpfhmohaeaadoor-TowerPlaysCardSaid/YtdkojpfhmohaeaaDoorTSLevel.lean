/- The versions on a level: the walk. -/
import Derived.Test.YtdkojpfhmohaeaaDoorTSLaw
import Derived.Deep.AppendLies
set_option linter.unusedVariables false
namespace Go.Proofs.YtdkojpfhmohaeaaDoor.TS
open Go.RowKit Go.Proofs.TowerPlain
variable {w w' w0 : World} {F G : Nat → Prop} {L : List N} {f : Nat → Nat → Option Nat} {x y hd : N} {ns : List N} {l : Nat}
theorem news_new (W : World) (cs : Array Value) (t : TypeId) : ∀ j u, cs.toList[j]? = some u → (W.alloc (.cells cs t)).cell? ((⟨W.heap.size, 0, none⟩ : Addr).add j) = some u := by
  intro j u hj
  rw [show (⟨W.heap.size, 0, none⟩ : Addr).add j = ⟨W.heap.size, j, none⟩ by unfold Addr.add; split <;> simp_all, blk_cell (blk_new W _)]
  simpa using hj
theorem info3 : (Tryd.prog.info? 3).map (fun i => (i.zero, i.size, i.bytes)) = some (some (.int .i64 0), 1, 8) := by kernel_rfl
def atsV (D : List Int) : List Value := D.map fun v => Value.int .i64 v
def levelN (k : Nat) (ns : List N) : List Int := (ns.filter fun x => decide (k < x.h)).map (·.vs)
def levelT (k : Nat) (t : List (Int × ByteArray)) : List Int := (t.filter fun x => decide (k < hgt x.1)).map (·.1)
theorem levelN_T {k : Nat} {ns : List N} (h : ∀ x ∈ ns, x.h = hgt x.vs) : levelN k ns = levelT k (tOf ns) := by
  unfold levelN levelT tOf
  rw [List.filter_map, List.map_map]
  show List.map _ _ = List.map _ _
  congr 1
  exact List.filter_congr fun x hx => by rw [h x hx]; rfl
theorem levelN_low {k : Nat} {p : List N} (h : ∀ z ∈ p, z.h ≤ k) : levelN k p = [] := by
  unfold levelN
  rw [List.map_eq_nil_iff, List.filter_eq_nil_iff]
  intro a ha
  have := h a ha
  simp; omega
theorem levelN_app (k : Nat) (p q : List N) : levelN k (p ++ q) = levelN k p ++ levelN k q := by unfold levelN; rw [List.filter_append, List.map_append]
theorem levelN_len (k : Nat) (p : List N) : (levelN k p).length ≤ p.length := by unfold levelN; rw [List.length_map]; exact List.length_filter_le _ _
-- CUT
set_option maxRecDepth 8000 in
set_option maxHeartbeats 4000000 in
theorem level_at (h : TwAt w F l hd ns f) (hn : ns.length ≤ 1000000) (k : Nat) (hk : k < 10) :
    Calls Tryd.prog 35 #[.pointer (some ⟨l, 0, none⟩), .int .i64 (k : Int)] w fun e w' => ∃ v, e = .returned v ∧ w'.ownsRow w.heap.size 3 1 v (levelN k ns).length (atsV (levelN k ns)) ∧ Turn Nope w w' := by
  have HT := Lib.hid h
  have HN := Lib.hid hn
  have l0 := blk_cell h.hl 0
  have hd2 := blk_cell (h.mem.at_ hd List.mem_cons_self).nd 2
  have hdr := blk_cell (h.mem.at_ hd List.mem_cons_self).row k
  rw [rowOf_at _ _ (by rw [h.hh]; exact hk), h.links [] hd ns rfl k (by rw [h.hh]; exact hk)] at hdr
  rw [h.hh] at hd2
  simp only [List.getElem?_toArray, List.getElem?_cons_zero, List.getElem?_cons_succ] at l0 hd2
  have q1 : decide ((k : Int) < 0) = false := by simp
  have q2 : decide ((k : Int) ≥ 10) = false := by simp; omega
  have q2' : decide (10 ≤ (k : Int)) = false := by simp; omega
  have q2n : decide (10 ≤ k) = false := by simp; omega
  have k0 : (0 : Int) ≤ (k : Int) := by omega
  have k1 : (k : Int) < 10 := by omega
  obtain ⟨i3, hi3, hz3, hs3, hb3⟩ := info_parts info3
  have I3 := Lib.hid (And.intro hi3 (And.intro hz3 (And.intro hs3 hb3)))
  clear hi3 hz3 hs3 hb3 h hn
  obtain ⟨po, hpo⟩ : ∃ po, ptrV (nxt k ns) = .pointer po := by cases nxt k ns <;> exact ⟨_, rfl⟩
  rw [hpo] at hdr
  have HPO := Lib.hid hpo
  clear hpo
  go_enter Tryd.func35, Tryd.ntmps35
  go_wp2_with fail
  clear l0 hd2 hdr
  go_loopg [5, 6] ns.length (fun m v5 v6 wr => ∃ (pre post : List N), v6 = ptrV (nxt k post) ∧ Hid (post.length ≤ m ∧ ns = pre ++ post ∧ wr.ownsRow w.heap.size 3 1 v5 (levelN k pre).length (atsV (levelN k pre)) ∧ Turn Nope w wr))
  case atStart => exact ⟨[], ns, HPO.out.symm, Nat.le_refl _, rfl, ⟨rfl, .inl ⟨rfl, rfl⟩⟩, Turn.refl _ _⟩
  case round =>
    obtain ⟨pre, post, rfl, hi⟩ := hrel
    clear HPO
    rcases bef_or (suf := post) k with ⟨p1, y, p2, e1, e2, e3⟩ | hlow
    · have hyL : y ∈ hd :: ns := by rw [hi.out.2.1, e1]; simp
      have e4 : nxt k post = some y.b := by rw [e1, nxt_low e3, nxt_cons e2]
      rw [e4]
      unfold ptrV
      have hY := (HT.out.mem.at_ y hyL).keep hi.out.2.2.2 (fun h => h) (fun h => h)
      have y0 := blk_cell hY.nd 0
      have yl := hY.lt.1
      simp only [List.getElem?_toArray, List.getElem?_cons_zero] at y0
      have HY : Hid (y ∈ hd :: ns ∧ f y.b k = nxt k p2) := ⟨hyL, HT.out.links (hd :: (pre ++ p1)) y p2 (by rw [hi.out.2.1, e1]; simp) k e2⟩
      have HE := Lib.hid (And.intro e1 (And.intro e2 e3))
      have HLE := Lib.hid (levelN_len k pre)
      have HPL : Hid (pre.length ≤ 1000000) := by have := HN.out; have := congrArg List.length hi.out.2.1; simp at this; exact (by omega : pre.length ≤ 1000000)
      have HLV : Hid (levelN k (pre ++ p1 ++ [y]) = levelN k pre ++ [y.vs]) := by
        show _ = _
        rw [levelN_app, levelN_app, levelN_low e3, List.append_nil]
        congr 1
        unfold levelN
        rw [List.filter_cons_of_pos (by simpa using e2)]; rfl
      clear e1 e2 e3 e4 hY hyL
      go_wp2_with (first | (at_builtin; refine wpList_append_lies _ rfl _ _ _ rfl w.heap.size 3 i3 _ 1 8 Tryd.underlying30 I3.out.1 I3.out.2.1 I3.out.2.2.1 I3.out.2.2.2 rfl (by omega) u5 (levelN k pre).length (atsV (levelN k pre)) rfl (own_nope hi.out.2.2.1 ((Turn.refl _ _).alloc _)) ⟨wr.heap.size, 0, none⟩ 1 1 [.int .i64 y.vs] rfl rfl (news_new wr _ 3) (by intro u hu; simp at hu; subst hu; rfl) (by omega) (by show (levelN k pre).length + 1 ≤ 9223372036854775807; have := HLE.out; have := HPL.out; omega) (by have := HLE.out; have := HPL.out; omega) (Nat.le_trans hi.out.2.2.2.size (by simp)) (wr.heap.size + 1) (by simp) ?_; intro g1 cap1 w3 hown hgr hat hlt; have HO3 := Lib.hid hown; have HG3 := Lib.hid hgr; have HT3 : Hid (Turn Nope w w3) := (hi.out.2.2.2.alloc _).grown hgr (fun b hb => .inr (own_base hi.out.2.2.1 b hb)); have hN3 := (HT.out.mem.at_ y HY.out.1).keep HT3.out (fun h => h) (fun h => h); have y2 := blk_cell hN3.nd 2; have yr := blk_cell hN3.row k; rw [rowOf_at _ _ HE.out.2.1, HY.out.2] at yr; simp only [List.getElem?_toArray, List.getElem?_cons_zero, List.getElem?_cons_succ] at y2; have ykh : (k : Int) < (y.h : Int) := (by have := HE.out.2.1; omega); clear hown hgr hat hlt hN3))
      go_roundg p2.length
      case measure => have := hi.out.1; rw [HE.out.1] at this; simp at this; omega
      case rel =>
        refine ⟨pre ++ p1 ++ [y], p2, rfl, Nat.le_refl _, by rw [hi.out.2.1, HE.out.1]; simp, ?_, HT3.out⟩
        rw [HLV.out]
        have h1 := HO3.out
        unfold atsV at *
        rw [List.length_append, List.map_append]
        exact h1
    · have e4 : nxt k post = none := by
        have := nxt_low hlow []
        rw [List.append_nil] at this
        rw [this]; rfl
      rw [e4]
      unfold ptrV
      have HLV : Hid (levelN k ns = levelN k pre) := by show _ = _; rw [hi.out.2.1, levelN_app, levelN_low hlow, List.append_nil]
      clear e4 hlow
      go_wp2_with fail
      go_ret
      rw [HLV.out]
      exact ⟨_, rfl, hi.out.2.2.1, hi.out.2.2.2⟩
-- END
theorem level_no (w : World) (k : Int) (hk : k < 0 ∨ 10 ≤ k) : Calls Tryd.prog 35 #[.pointer (some ⟨l, 0, none⟩), .int .i64 k] w fun e w' => e = .returned (.slice none 0 0) ∧ w = w' := by
  by_cases h0 : k < 0
  · have q1 : decide (k < 0) = true := by simpa using h0
    go_enter Tryd.func35, Tryd.ntmps35
    go_wp2_with fail
    go_ret
    exact ⟨rfl, rfl⟩
  · have q1 : decide (k < 0) = false := by simpa using h0
    have q2 : decide (k ≥ 10) = true := by simp; omega
    have q2' : decide (10 ≤ k) = true := by simp; omega
    go_enter Tryd.func35, Tryd.ntmps35
    go_wp2_with fail
    go_ret
    exact ⟨rfl, rfl⟩
theorem tlevel {t : List (Int × ByteArray)} (h : Tw w F l t) (hn : t.length ≤ 1000000) (k : Nat) (hk : k < 10) :
    Calls Tryd.prog 35 #[.pointer (some ⟨l, 0, none⟩), .int .i64 (k : Int)] w fun e w' => ∃ v, e = .returned v ∧ w'.ownsRow w.heap.size 3 1 v (levelT k t).length (atsV (levelT k t)) ∧ Turn Nope w w' := by
  obtain ⟨hd, ns, f, h, rfl⟩ := h
  rw [← levelN_T h.hs]
  exact level_at h (by unfold tOf at hn; rwa [List.length_map] at hn) k hk
end Go.Proofs.YtdkojpfhmohaeaaDoor.TS
