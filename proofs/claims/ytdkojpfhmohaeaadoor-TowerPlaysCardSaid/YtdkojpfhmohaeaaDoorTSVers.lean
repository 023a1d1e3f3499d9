/- All versions of a tower: the walk. -/
import Derived.Test.YtdkojpfhmohaeaaDoorTSLevel
import Derived.Deep.AppendLies
set_option linter.unusedVariables false
namespace Go.Proofs.YtdkojpfhmohaeaaDoor.TS
open Go.RowKit Go.Proofs.TowerPlain
variable {w w' w0 : World} {F G : Nat → Prop} {L : List N} {f : Nat → Nat → Option Nat} {x y hd : N} {ns : List N} {l : Nat}
set_option maxRecDepth 8000 in
set_option maxHeartbeats 4000000 in
theorem vers_at (h : TwAt w F l hd ns f) (hn : ns.length ≤ 1000000) :
    Calls Tryd.prog 30 #[.pointer (some ⟨l, 0, none⟩)] w fun e w' => ∃ v, e = .returned v ∧ w'.ownsRow w.heap.size 3 1 v (levelN 0 ns).length (atsV (levelN 0 ns)) ∧ Turn Nope w w' := by
  have HT := Lib.hid h
  have HN := Lib.hid hn
  have l0 := blk_cell h.hl 0
  have hd2 := blk_cell (h.mem.at_ hd List.mem_cons_self).nd 2
  have hdr := blk_cell (h.mem.at_ hd List.mem_cons_self).row 0
  rw [rowOf_at _ _ (by rw [h.hh]; exact (by decide)), h.links [] hd ns rfl 0 (by rw [h.hh]; exact (by decide))] at hdr
  rw [h.hh] at hd2
  simp only [List.getElem?_toArray, List.getElem?_cons_zero, List.getElem?_cons_succ] at l0 hd2
  have k0 : (0 : Int) ≤ (0 : Int) := by omega
  have k1 : (0 : Int) < 10 := by omega
  obtain ⟨i3, hi3, hz3, hs3, hb3⟩ := info_parts info3
  have I3 := Lib.hid (And.intro hi3 (And.intro hz3 (And.intro hs3 hb3)))
  clear hi3 hz3 hs3 hb3 h hn
  obtain ⟨po, hpo⟩ : ∃ po, ptrV (nxt 0 ns) = .pointer po := by cases nxt 0 ns <;> exact ⟨_, rfl⟩
  rw [hpo] at hdr
  have HPO := Lib.hid hpo
  clear hpo
  go_enter Tryd.func30, Tryd.ntmps30
  go_wp2_with fail
  clear l0 hd2 hdr
  go_loopg [3, 4] ns.length (fun m v3 v4 wr => ∃ (pre post : List N), v4 = ptrV (nxt 0 post) ∧ Hid (post.length ≤ m ∧ ns = pre ++ post ∧ wr.ownsRow w.heap.size 3 1 v3 (levelN 0 pre).length (atsV (levelN 0 pre)) ∧ Turn Nope w wr))
  case atStart => exact ⟨[], ns, HPO.out.symm, Nat.le_refl _, rfl, ⟨rfl, .inl ⟨rfl, rfl⟩⟩, Turn.refl _ _⟩
  case round =>
    obtain ⟨pre, post, rfl, hi⟩ := hrel
    clear HPO
    rcases bef_or (suf := post) 0 with ⟨p1, y, p2, e1, e2, e3⟩ | hlow
    · have hyL : y ∈ hd :: ns := by rw [hi.out.2.1, e1]; simp
      have e4 : nxt 0 post = some y.b := by rw [e1, nxt_low e3, nxt_cons e2]
      rw [e4]
      unfold ptrV
      have hY := (HT.out.mem.at_ y hyL).keep hi.out.2.2.2 (fun h => h) (fun h => h)
      have y0 := blk_cell hY.nd 0
      have yl := hY.lt.1
      simp only [List.getElem?_toArray, List.getElem?_cons_zero] at y0
      have HY : Hid (y ∈ hd :: ns ∧ f y.b 0 = nxt 0 p2) := ⟨hyL, HT.out.links (hd :: (pre ++ p1)) y p2 (by rw [hi.out.2.1, e1]; simp) 0 e2⟩
      have HE := Lib.hid (And.intro e1 (And.intro e2 e3))
      have HLE := Lib.hid (levelN_len 0 pre)
      have HPL : Hid (pre.length ≤ 1000000) := by have := HN.out; have := congrArg List.length hi.out.2.1; simp at this; exact (by omega : pre.length ≤ 1000000)
      have HLV : Hid (levelN 0 (pre ++ p1 ++ [y]) = levelN 0 pre ++ [y.vs]) := by
        show _ = _
        rw [levelN_app, levelN_app, levelN_low e3, List.append_nil]
        congr 1
        unfold levelN
        rw [List.filter_cons_of_pos (by simpa using e2)]; rfl
      clear e1 e2 e3 e4 hY hyL
      go_wp2_with (first | (at_builtin; refine wpList_append_lies _ rfl _ _ _ rfl w.heap.size 3 i3 _ 1 8 Tryd.underlying30 I3.out.1 I3.out.2.1 I3.out.2.2.1 I3.out.2.2.2 rfl (by omega) u3 (levelN 0 pre).length (atsV (levelN 0 pre)) rfl (own_nope hi.out.2.2.1 ((Turn.refl _ _).alloc _)) ⟨wr.heap.size, 0, none⟩ 1 1 [.int .i64 y.vs] rfl rfl (news_new wr _ 3) (by intro u hu; simp at hu; subst hu; rfl) (by omega) (by show (levelN 0 pre).length + 1 ≤ 9223372036854775807; have := HLE.out; have := HPL.out; omega) (by have := HLE.out; have := HPL.out; omega) (Nat.le_trans hi.out.2.2.2.size (by simp)) (wr.heap.size + 1) (by simp) ?_; intro g1 cap1 w3 hown hgr hat hlt; have HO3 := Lib.hid hown; have HG3 := Lib.hid hgr; have HT3 : Hid (Turn Nope w w3) := (hi.out.2.2.2.alloc _).grown hgr (fun b hb => .inr (own_base hi.out.2.2.1 b hb)); have hN3 := (HT.out.mem.at_ y HY.out.1).keep HT3.out (fun h => h) (fun h => h); have y2 := blk_cell hN3.nd 2; have yr := blk_cell hN3.row 0; rw [rowOf_at _ _ HE.out.2.1, HY.out.2] at yr; simp only [List.getElem?_toArray, List.getElem?_cons_zero, List.getElem?_cons_succ] at y2; have ykh : (0 : Int) < (y.h : Int) := (by have := HE.out.2.1; omega); clear hown hgr hat hlt hN3))
      go_roundg p2.length
      case measure => have := hi.out.1; rw [HE.out.1] at this; simp at this; omega
      case rel =>
        refine ⟨pre ++ p1 ++ [y], p2, rfl, Nat.le_refl _, by rw [hi.out.2.1, HE.out.1]; simp, ?_, HT3.out⟩
        rw [HLV.out]
        have h1 := HO3.out
        unfold atsV at *
        rw [List.length_append, List.map_append]
        exact h1
    · have e4 : nxt 0 post = none := by
        have := nxt_low hlow []
        rw [List.append_nil] at this
        rw [this]; rfl
      rw [e4]
      unfold ptrV
      have HLV : Hid (levelN 0 ns = levelN 0 pre) := by show _ = _; rw [hi.out.2.1, levelN_app, levelN_low hlow, List.append_nil]
      clear e4 hlow
      go_wp2_with fail
      go_ret
      rw [HLV.out]
      exact ⟨_, rfl, hi.out.2.2.1, hi.out.2.2.2⟩
theorem level0 {ns : List N} (h : ∀ x ∈ ns, 1 ≤ x.h) : levelN 0 ns = (tOf ns).map (·.1) := by
  unfold levelN tOf
  rw [List.filter_eq_self.2 fun x hx => by have := h x hx; simp; omega, List.map_map]
  rfl
theorem tvers {t : List (Int × ByteArray)} (h : Tw w F l t) (hn : t.length ≤ 1000000) :
    Calls Tryd.prog 30 #[.pointer (some ⟨l, 0, none⟩)] w fun e w' => ∃ v, e = .returned v ∧ w'.ownsRow w.heap.size 3 1 v (t.map (·.1)).length (atsV (t.map (·.1))) ∧ Turn Nope w w' := by
  obtain ⟨hd, ns, f, h, rfl⟩ := h
  rw [← level0 (fun x hx => h.h1 x (List.mem_cons_of_mem _ hx))]
  exact vers_at h (by unfold tOf at hn; rwa [List.length_map] at hn)
end Go.Proofs.YtdkojpfhmohaeaaDoor.TS
