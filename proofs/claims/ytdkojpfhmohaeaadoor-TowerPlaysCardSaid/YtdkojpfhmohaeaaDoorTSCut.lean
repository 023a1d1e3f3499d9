/- Cut of a tower: the walk. -/
import Derived.Test.YtdkojpfhmohaeaaDoorTSLevel
import Derived.Test.YtdkojpfhmohaeaaDoorTSPutn
import Derived.BigRegion
set_option linter.unusedVariables false
namespace Go.Proofs.YtdkojpfhmohaeaaDoor.TS
open Go.RowKit Go.Proofs.TowerPlain
variable {w w' w0 : World} {F G : Nat → Prop} {L : List N} {f : Nat → Nat → Option Nat} {x y hd : N} {ns : List N} {l : Nat}
def cutT (a b : Int) (t : List (Int × ByteArray)) : List (Int × ByteArray) := t.filter fun x => decide (x.1 < a ∨ b ≤ x.1)
theorem MemOf.less {A B : List N} (h : MemOf w (A ++ x :: B) f) : MemOf w (A ++ B) f := by
  refine ⟨fun y hy => h.at_ y ?_, ?_, ?_⟩
  · rcases List.mem_append.1 hy with h1 | h1
    · exact List.mem_append_left _ h1
    · exact List.mem_append_right _ (List.mem_cons_of_mem _ h1)
  · exact h.nb.sublist (List.Sublist.map _ (List.Sublist.append (List.Sublist.refl _) (List.sublist_cons_self _ _)))
  · exact h.nr.sublist (List.Sublist.map _ (List.Sublist.append (List.Sublist.refl _) (List.sublist_cons_self _ _)))
set_option maxRecDepth 8000 in
set_option maxHeartbeats 16000000 in
theorem cut_at {A0 B : List N} {a : Int} (b : Int) (h : TwAt w F l hd ns f) (hp : Parted hd ns A0 B a) (hA : ns.takeWhile (below a) = A0) (hn : ns.length ≤ 1000000) :
    Calls Tryd.prog 25 #[.pointer (some ⟨l, 0, none⟩), .int .i64 a, .int .i64 b] w fun e w' => ∃ (R C : List N) (F' : Nat → Prop), e = .returned (.int .i64 (R.length : Int)) ∧ B = R ++ C ∧ (∀ y ∈ R, y.vs < b) ∧ (∀ y ∈ C, b ≤ y.vs) ∧ Tw w' F' l (tOf (A0 ++ C)) ∧ (∀ k, F' k → F k) ∧ Turn F w w' := by
  have HC := Lib.hid (before_any h a)
  rw [hA] at HC
  have HP := Lib.hid hp
  have HT := Lib.hid h
  have HN := Lib.hid hn
  have HSO : Hid (B.Pairwise fun a b => a.vs < b.vs) := by have := h.sorted; rw [hp.eq] at this; exact (List.pairwise_append.1 this).2.1
  clear h hp hA hn
  go_enter Tryd.func25, Tryd.ntmps25
  go_wp2_with fail
  refine HC.out.mono ?_
  rintro e w1 ⟨g, gg, rfl, hg, hgs, ht, hb⟩
  obtain ⟨z, zp, hs⟩ := HT.out.start HP.out hg ht hb
  have HS := Lib.hid hs
  have c0 := hs.c0
  have z2 := hs.z2
  have zr := hs.zr
  have zh := hs.zh
  have HT1 := Lib.hid ht
  have HGS := Lib.hid hgs
  have HLT : Hid (∀ y ∈ hd :: ns, y.b < w.heap.size ∧ y.r < w.heap.size) := fun y hy => (HT.out.mem.at_ y hy).lt
  have HFT : Hid (∀ y ∈ hd :: A0, F y.r) := fun y hy => (HT.out.foot _).2 (.inr ⟨y, by rw [HP.out.eq]; rcases List.mem_cons.1 hy with h | h <;> simp [h], .inr rfl⟩)
  have HFL : Hid (F l) := (HT.out.foot _).2 (.inl rfl)
  obtain ⟨po, hpo⟩ : ∃ po, ptrV (B.head?.map (·.b)) = .pointer po := by cases B.head?.map (·.b) <;> exact ⟨_, rfl⟩
  rw [hpo] at zr
  have HPO := Lib.hid hpo
  have h0 := HT.out.nope ht
  have hmem := h0.mem
  have hlk := h0.links
  rw [show hd :: ns = (hd :: A0) ++ B by rw [HP.out.eq]; rfl] at hmem hlk
  have HM0 := Lib.hid hmem
  have HK0 := Lib.hid hlk
  have HL0 := Lib.hid h0.hl
  clear hs hg hgs ht hb HC hpo h0 hmem hlk
  go_wp2_with fail
  clear c0 z2 zr zh
  go_loopg [8, 9, 10] B.length (fun m v8 v9 v10 wr => ∃ (R post : List N) (f' : Nat → Nat → Option Nat), v8 = .int .i64 (R.length : Int) ∧ v9 = ptrV (post.head?.map (·.b)) ∧ Hid (post.length ≤ m ∧ B = R ++ post ∧ (∀ y ∈ R, y.vs < b) ∧ MemOf wr ((hd :: A0) ++ post) f' ∧ Links f' ((hd :: A0) ++ post) ∧ wr.heap[l]? = some (.cells #[.pointer (some ⟨hd.b, 0, none⟩), .int .i64 (ns.length : Int)] 73 (0, 0)) ∧ wr.heap[g]? = some (.cells (outA gg 0) 68 (0, 0)) ∧ Turn F w wr))
  case atStart => exact ⟨[], B, f, rfl, HPO.out.symm, Nat.le_refl _, rfl, (fun _ h => by cases h), HM0.out, HK0.out, HL0.out, HS.out.out, HT1.out.ofNope⟩
  case round =>
    obtain ⟨R, post, f', rfl, rfl, hi⟩ := hrel
    clear HM0 HK0 HL0 HPO
    have hRl : R.length ≤ 1000000 := by have h1 := HN.out; have h2 := congrArg List.length HP.out.eq; have h3 := congrArg List.length hi.out.2.1; simp at h2 h3; omega
    have hwR : wrap64 ((R.length : Int) + 1) = (R.length : Int) + 1 := IntWalk.wrap64_in _ ⟨by omega, by omega⟩
    by_cases hmore : ∃ x post', post = x :: post' ∧ x.vs < b
    · obtain ⟨x, post', hpost, hxb⟩ := hmore
      rw [hpost] at hi ⊢
      simp only [List.head?_cons, Option.map_some]
      rw [show ptrV (some x.b) = .pointer (some ⟨x.b, 0, none⟩) from rfl]
      have hxM : x ∈ (hd :: A0) ++ x :: post' := by simp
      have hX := hi.out.2.2.2.1.at_ x hxM
      have x0 := blk_cell hX.nd 0
      have x2 := blk_cell hX.nd 2
      simp only [List.getElem?_toArray, List.getElem?_cons_zero, List.getElem?_cons_succ] at x0 x2
      have d1 : decide (x.vs < b) = true := by simpa using hxb
      have hxns : x ∈ ns := by rw [HP.out.eq, hi.out.2.1]; simp
      have hxh : x.h ≤ 10 := by rw [HT.out.hs x hxns]; exact hgt_le _
      have hxh1 : 1 ≤ x.h := by rw [HT.out.hs x hxns]; exact hgt_pos _
      have HXB := Lib.hid (And.intro hxb hxns)
      have HPOST := Lib.hid hpost
      obtain ⟨wo, rfl⟩ : ∃ wo, wo = wr := ⟨wr, rfl⟩
      clear hxM hX hxb hpost hxns
      go_wp2_with fail
      clear x0 x2
      go_loopg [10, 43] x.h (fun kk v10 v43 wi => ∃ (k : Nat), v43 = .int .i64 (k : Int) ∧ Hid (kk + k = x.h ∧ MemOf wi ((hd :: A0) ++ x :: post') (fcut f' gg x.b k) ∧ wi.heap[l]? = some (.cells #[.pointer (some ⟨hd.b, 0, none⟩), .int .i64 (ns.length : Int)] 73 (0, 0)) ∧ wi.heap[g]? = some (.cells (outA gg 0) 68 (0, 0)) ∧ Turn F w wi))
      case atStart => exact ⟨0, rfl, rfl, by rw [fcut_zero]; exact hi.out.2.2.2.1, hi.out.2.2.2.2.2.1, hi.out.2.2.2.2.2.2.1, hi.out.2.2.2.2.2.2.2⟩
      case round =>
        obtain ⟨k, rfl, hj⟩ := hrel
        have hik := hj.out.1
        have hxM : x ∈ (hd :: A0) ++ x :: post' := by simp
        have hX := hj.out.2.1.at_ x hxM
        have x2 := blk_cell hX.nd 2
        simp only [List.getElem?_toArray, List.getElem?_cons_zero, List.getElem?_cons_succ] at x2
        by_cases hlt : k < x.h
        · have b1 : decide ((k : Int) < (x.h : Int)) = true := by simp; omega
          have b1n : decide (k < x.h) = true := by simp; omega
          have hw : wrap64 ((k : Int) + 1) = (k : Int) + 1 := IntWalk.wrap64_in _ ⟨by omega, by omega⟩
          have k0 : (0 : Int) ≤ (k : Int) := by omega
          have k1 : (k : Int) < (x.h : Int) := by omega
          have k2 : (k : Int) < 10 := by omega
          obtain ⟨pre, y, suf, e1, e2, e3, e4⟩ := HS.out.bef k (by omega)
          have hyA : y ∈ hd :: A0 := by rw [e1]; simp
          have hyM : y ∈ (hd :: A0) ++ x :: post' := List.mem_append_left _ hyA
          have hY := hj.out.2.1.at_ y hyM
          have y2 := blk_cell hY.nd 2
          have xk := blk_cell hX.row k
          have yk := blk_cell hY.row k
          have yf := blk_frozen hY.row k
          have gk0 := blk_cell hj.out.2.2.2.1 k
          simp only [List.getElem?_toArray, List.getElem?_cons_zero, List.getElem?_cons_succ] at y2
          have hne : y.b ≠ x.b := fun e => by
            have := hj.out.2.1.nb
            unfold Bs at this
            rw [List.map_append, List.map_cons, List.nodup_append] at this
            exact this.2.2 y.b (List.mem_map_of_mem hyA) x.b List.mem_cons_self e
          rw [rowOf_at _ _ hlt, show fcut f' gg x.b k x.b k = f' x.b k by unfold fcut; rw [if_neg (fun e => Nat.lt_irrefl k e.1)]] at xk
          rw [rowOf_at _ _ e3] at yk
          rw [outA_at gg (by omega), ← e2] at gk0
          have yh : (k : Int) < (y.h : Int) := by omega
          obtain ⟨q, hq⟩ : ∃ q, f' x.b k = q := ⟨_, rfl⟩
          rw [hq] at xk
          obtain ⟨pq, hpq⟩ := ptrV_form q
          rw [hpq] at xk
          obtain ⟨pq2, hpq2⟩ := ptrV_form (fcut f' gg x.b k y.b k)
          rw [hpq2] at yk
          have HQ := Lib.hid (And.intro hq (And.intro e2 hpq))
          have HY := Lib.hid (And.intro hyM (And.intro hyA hne))
          clear hq hpq hpq2 e1 e2 e3 e4 hyA hyM hxM hY hX hne
          go_wp2_with fail
          go_region
          all_goals
            have m2 : MemOf (wr.setCell ⟨y.r, k, none⟩ (.pointer pq)) ((hd :: A0) ++ x :: post') (fcut f' gg x.b (k + 1)) := by
              have m1 := hj.out.2.1.set_row HY.out.1 (k := k) q
              rw [← HQ.out.2.2]
              rw [HQ.out.2.1, show q = f' x.b k from HQ.out.1.symm, fcut_step] at m1
              rw [show q = f' x.b k from HQ.out.1.symm]
              exact m1
            have t2 : Turn (At y.r) wr (wr.setCell ⟨y.r, k, none⟩ (.pointer pq)) := (Turn.refl _ _).set_at _
            have t3 : Turn F w (wr.setCell ⟨y.r, k, none⟩ (.pointer pq)) := Turn.setCell (p := ⟨y.r, k, none⟩) hj.out.2.2.2.2 (.inl (HFT.out y HY.out.2.1)) _
            have lne : ¬ (l = y.r) := fun e => HT.out.fl ⟨y, by rw [HP.out.eq]; rcases List.mem_cons.1 HY.out.2.1 with h | h <;> simp [h], .inr e⟩
            have gne : ¬ (g = y.r) := fun e => by
              have h1 := (HLT.out y (by rw [HP.out.eq]; rcases List.mem_cons.1 HY.out.2.1 with h | h <;> simp [h])).2
              have := HGS.out; omega
            have HF2 := Lib.hid (And.intro m2 (And.intro (t2.blk hj.out.2.2.1 lne) (And.intro (t2.blk hj.out.2.2.2.1 gne) t3)))
            clear m2 t2 t3 lne gne x2 y2 xk yk yf gk0
            generalize wr.setCell ⟨y.r, k, none⟩ (.pointer pq) = wz at *
            go_wp2_with fail
            go_roundg (x.h - (k + 1))
            case measure => omega
            case rel =>
              have hd : ∀ {W : World}, Turn Nope wz W → MemOf W ((hd :: A0) ++ x :: post') (fcut f' gg x.b (k + 1)) ∧ W.heap[l]? = some (.cells #[.pointer (some ⟨hd.b, 0, none⟩), .int .i64 (ns.length : Int)] 73 (0, 0)) ∧ W.heap[g]? = some (.cells (outA gg 0) 68 (0, 0)) ∧ Turn F w W := fun hW =>
                ⟨HF2.out.1.keep hW (fun _ _ h => h), hW.blk HF2.out.2.1 (fun h => h), hW.blk HF2.out.2.2.1 (fun h => h), HF2.out.2.2.2.trans hW.ofNope⟩
              exact ⟨k + 1, by go_num, by omega, hd (by repeat (first | exact Turn.refl _ _ | apply Turn.drewN | apply Turn.drew))⟩
        · obtain rfl : k = x.h := by omega
          have b1 : decide ((x.h : Int) < (x.h : Int)) = false := by simp
          have xr := blk_cell hX.row 0
          have hbx : x.b ∉ Bs (hd :: A0) := fun e => by
            have := hj.out.2.1.nb
            unfold Bs at this e
            rw [List.map_append, List.map_cons, List.nodup_append] at this
            exact this.2.2 x.b e x.b List.mem_cons_self rfl
          have hgx : gg 0 ≠ x.b := fun e => by
            obtain ⟨pre, y, suf, e1, e2, _⟩ := HS.out.bef 0 (by decide)
            exact hbx (by rw [← e, ← e2, e1]; simp [Bs])
          have hNX : fcut f' gg x.b x.h x.b 0 = post'.head?.map (·.b) := by
            unfold fcut
            rw [if_neg (fun e => hgx e.2.symm), hi.out.2.2.2.2.1 (hd :: A0) x post' rfl 0 (by omega)]
            refine nxt0 fun q hq => ?_
            rw [HT.out.hs q (by rw [HP.out.eq, hi.out.2.1]; simp [hq])]
            exact hgt_pos _
          rw [rowOf_at _ _ (by omega), hNX] at xr
          obtain ⟨pq, hpq⟩ : ∃ pq, ptrV (post'.head?.map (·.b)) = .pointer pq := by cases post'.head?.map (·.b) <;> exact ⟨_, rfl⟩
          rw [hpq] at xr
          have HPQ := Lib.hid hpq
          have x1 : (0 : Int) < (x.h : Int) := by omega
          have HLK : Hid (Links (fcut f' gg x.b x.h) ((hd :: A0) ++ post')) := links_cut hi.out.2.2.2.2.1 hi.out.2.2.2.1.nb (fun h hh => HS.out.bef h (by omega))
          clear hbx hgx hNX hpq hX hik hlt hxM
          go_wp2_with fail
          go_roundg post'.length
          case measure => have := hi.out.1; simp at this; omega
          case rel =>
            refine ⟨R ++ [x], post', _, by rw [List.length_append]; go_num, HPQ.out.symm, Nat.le_refl _, by rw [hi.out.2.1]; simp, fun y hy => ?_, hj.out.2.1.less, HLK.out, hj.out.2.2.1, hj.out.2.2.2.1, hj.out.2.2.2.2⟩
            rcases List.mem_append.1 hy with h1 | h1
            · exact hi.out.2.2.1 y h1
            · simp at h1; subst h1; exact HXB.out.1
    · have l1 := blk_cell hi.out.2.2.2.2.2.1 1
      have lf := blk_frozen hi.out.2.2.2.2.2.1 1
      simp only [List.getElem?_toArray, List.getElem?_cons_zero, List.getElem?_cons_succ] at l1
      have hlen : ns.length = (A0 ++ R ++ post).length := by rw [HP.out.eq, hi.out.2.1]; simp
      have hRn : R.length ≤ ns.length := by rw [hlen]; simp; omega
      have hn := HN.out
      have hw1 : wrap64 ((ns.length : Int) - (R.length : Int)) = (ns.length : Int) - (R.length : Int) := IntWalk.wrap64_in _ ⟨by omega, by omega⟩
      have HLEN : Hid (((A0 ++ post).length : Int) = (ns.length : Int) - (R.length : Int)) := by show _ = _; rw [hlen]; simp; omega
      have HCB : Hid (∀ y ∈ post, b ≤ y.vs) := by
        intro y hy
        cases hpost : post with
        | nil => rw [hpost] at hy; cases hy
        | cons c s =>
          have hc : b ≤ c.vs := Int.not_lt.1 fun h => hmore ⟨c, s, hpost, h⟩
          rw [hpost] at hy
          rcases List.mem_cons.1 hy with rfl | hy
          · exact hc
          · have h1 := HSO.out
            rw [hi.out.2.1, hpost] at h1
            have := (List.pairwise_cons.1 (List.pairwise_append.1 h1).2.1).1 y hy
            omega
      have hfin : ∀ W : World, W = wr.setCell ⟨l, 1, none⟩ (.int .i64 ((ns.length : Int) - (R.length : Int))) → ∃ (R' C : List N) (F' : Nat → Prop), (R.length : Int) = (R'.length : Int) ∧ B = R' ++ C ∧ (∀ y ∈ R', y.vs < b) ∧ (∀ y ∈ C, b ≤ y.vs) ∧ Tw W F' l (tOf (A0 ++ C)) ∧ (∀ k, F' k → F k) ∧ Turn F w W := by
        rintro W rfl
        have tt : Turn (At l) wr (wr.setCell ⟨l, 1, none⟩ (.int .i64 ((ns.length : Int) - (R.length : Int)))) := (Turn.refl _ _).set_at _
        have hsub : ∀ y, y ∈ hd :: (A0 ++ post) → y ∈ hd :: ns := fun y hy => by
          rw [HP.out.eq, hi.out.2.1]
          rcases List.mem_cons.1 hy with h | h
          · simp [h]
          · rcases List.mem_append.1 h with h | h <;> simp [h]
        have hfl : ¬ Foot (hd :: (A0 ++ post)) l := fun ⟨y, hy, h⟩ => HT.out.fl ⟨y, hsub y hy, h⟩
        have hmm : MemOf (wr.setCell ⟨l, 1, none⟩ (.int .i64 ((ns.length : Int) - (R.length : Int)))) (hd :: (A0 ++ post)) f' := hi.out.2.2.2.1.keep tt (fun k hk e => hfl (by rw [← show k = l from e]; exact hk))
        refine ⟨R, post, fun k => k = l ∨ Foot (hd :: (A0 ++ post)) k, rfl, hi.out.2.1, hi.out.2.2.1, HCB.out, ⟨hd, A0 ++ post, f', ⟨?_, hmm, hi.out.2.2.2.2.1, HT.out.hh, ?_, ?_, fun k => Iff.rfl, hfl⟩, rfl⟩, ?_, ?_⟩
        · rw [HLEN.out]
          exact blk_set hi.out.2.2.2.2.2.1 1 _
        · intro y hy
          refine HT.out.hs y ?_
          rw [HP.out.eq, hi.out.2.1]
          rcases List.mem_append.1 hy with h | h <;> simp [h]
        · have h1 := HT.out.sorted
          rw [HP.out.eq, hi.out.2.1] at h1
          exact h1.sublist (List.Sublist.append (List.Sublist.refl _) (List.sublist_append_right _ _))
        · rintro k (rfl | ⟨y, hy, h⟩)
          · exact HFL.out
          · exact (HT.out.foot k).2 (.inr ⟨y, hsub y hy, h⟩)
        · exact Turn.setCell (p := ⟨l, 1, none⟩) hi.out.2.2.2.2.2.2.2 (.inl HFL.out) _
      have HFIN := Lib.hid hfin
      clear hfin hn hRn hlen
      cases hpost : post with
      | nil =>
        simp only [List.head?_nil, Option.map_none]
        rw [show ptrV none = .pointer none from rfl]
        have HPOST := Lib.hid hpost
        clear hpost hmore
        go_wp2_with fail
        go_ret
        obtain ⟨R', C, F', h1, h2⟩ := HFIN.out _ rfl
        exact ⟨R', C, F', by rw [← h1]; rfl, h2⟩
      | cons c s =>
        simp only [List.head?_cons, Option.map_some]
        rw [show ptrV (some c.b) = .pointer (some ⟨c.b, 0, none⟩) from rfl]
        have hc : ¬ c.vs < b := fun h => hmore ⟨c, s, hpost, h⟩
        have d1 : decide (c.vs < b) = false := by simpa using hc
        have hC := hi.out.2.2.2.1.at_ c (by rw [hpost]; simp)
        have x0 := blk_cell hC.nd 0
        simp only [List.getElem?_toArray, List.getElem?_cons_zero] at x0
        have HPOST := Lib.hid hpost
        clear hpost hmore hc hC
        go_wp2_with fail
        go_ret
        obtain ⟨R', C, F', h1, h2⟩ := HFIN.out _ rfl
        exact ⟨R', C, F', by rw [← h1]; rfl, h2⟩
theorem tcut {t : List (Int × ByteArray)} (h : Tw w F l t) (hn : t.length ≤ 1000000) (a b : Int) :
    Calls Tryd.prog 25 #[.pointer (some ⟨l, 0, none⟩), .int .i64 a, .int .i64 b] w fun e w' => e = .returned (.int .i64 ((t.length : Int) - (cutT a b t).length)) ∧ ∃ F', Tw w' F' l (cutT a b t) ∧ Sub w F F' ∧ Turn F w w' := by
  obtain ⟨hd, ns, f, h, rfl⟩ := h
  have hp := h.parted a
  refine (cut_at b h hp rfl (by unfold tOf at hn; rwa [List.length_map] at hn)).mono ?_
  rintro e w' ⟨R, C, F', rfl, hB, hR, hC, hT, hF, ht⟩
  have e1 : cutT a b (tOf ns) = tOf (ns.takeWhile (below a) ++ C) := by
    conv => lhs; rw [hp.eq, hB]
    unfold cutT
    rw [tOf_app, tOf_app, tOf_app, List.filter_append, List.filter_append]
    have h1 : (tOf (ns.takeWhile (below a))).filter (fun x => decide (x.1 < a ∨ b ≤ x.1)) = tOf (ns.takeWhile (below a)) := by
      rw [List.filter_eq_self]
      intro q hq
      obtain ⟨y, hy, rfl⟩ := List.mem_map.1 hq
      simpa using Or.inl (hp.lo y hy)
    have h2 : (tOf R).filter (fun x => decide (x.1 < a ∨ b ≤ x.1)) = [] := by
      rw [List.filter_eq_nil_iff]
      intro q hq
      obtain ⟨y, hy, rfl⟩ := List.mem_map.1 hq
      have h3 := hR y hy
      have h4 := hp.hi y (by rw [hB]; simp [hy])
      simp; omega
    have h3 : (tOf C).filter (fun x => decide (x.1 < a ∨ b ≤ x.1)) = tOf C := by
      rw [List.filter_eq_self]
      intro q hq
      obtain ⟨y, hy, rfl⟩ := List.mem_map.1 hq
      simpa using Or.inr (hC y hy)
    rw [h1, h2, h3, List.nil_append]
  have e2 : ((tOf ns).length : Int) - (cutT a b (tOf ns)).length = R.length := by
    rw [e1]
    unfold tOf
    rw [List.length_map, List.length_map]
    have : ns.length = (ns.takeWhile (below a)).length + (R.length + C.length) := by
      conv => lhs; rw [hp.eq, hB]
      simp
    simp; omega
  rw [e2, e1]
  exact ⟨rfl, F', hT, fun k hk => .inl (hF k hk), ht⟩
end Go.Proofs.YtdkojpfhmohaeaaDoor.TS
