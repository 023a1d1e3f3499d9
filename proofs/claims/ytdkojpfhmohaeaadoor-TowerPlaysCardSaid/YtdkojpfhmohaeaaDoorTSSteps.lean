/- How many nodes a search looks at: the walk. -/
import Derived.Test.YtdkojpfhmohaeaaDoorTSLevel
import Derived.Test.YtdkojpfhmohaeaaDoorSteps
set_option linter.unusedVariables false
namespace Go.Proofs.YtdkojpfhmohaeaaDoor.TS
open Go.RowKit Go.Proofs.TowerPlain
variable {w w' w0 : World} {F G : Nat → Prop} {L : List N} {f : Nat → Nat → Option Nat} {x y hd : N} {ns : List N} {l : Nat}
def hsOf (s : List N) : List Nat := s.map (·.h)
theorem hsOf_app (a b : List N) : hsOf (a ++ b) = hsOf a ++ hsOf b := List.map_append
theorem hsOf_mem {s : List N} {k : Nat} (h : ∀ z ∈ s, z.h ≤ k) : ∀ x ∈ hsOf s, x ≤ k := fun x hx => by obtain ⟨z, hz, rfl⟩ := List.mem_map.1 hx; exact h z hz
def stepsT (v : Int) (t : List (Int × ByteArray)) : Nat := stepsH 10 ((t.filter fun x => decide (x.1 ≤ v)).map fun x => hgt x.1)
set_option maxRecDepth 8000 in
set_option maxHeartbeats 4000000 in
theorem steps_at (h : TwAt w F l hd ns f) (hn : ns.length ≤ 1000000) {A0 B : List N} (v : Int) (hp : Parted hd ns A0 B (v + 1)) :
    Calls Tryd.prog 32 #[.pointer (some ⟨l, 0, none⟩), .int .i64 v] w fun e w' => e = .returned (.int .i64 (stepsH 10 (hsOf A0) : Nat)) ∧ w = w' := by
  have HT := Lib.hid h
  have HA : Hid (∀ y ∈ A0, y.vs ≤ v) := fun y hy => by have := hp.lo y hy; omega
  have HB : Hid (∀ y ∈ B, v < y.vs) := fun y hy => by have := hp.hi y hy; omega
  have HS := Lib.hid hp.eq
  have hl := blk_cell h.hl 0
  simp only [List.getElem?_toArray, List.getElem?_cons_zero] at hl
  obtain ⟨T, hTT⟩ : ∃ T, stepsH 10 (hsOf A0) = T := ⟨_, rfl⟩
  have HTT := Lib.hid hTT
  have hTb : T ≤ 1000000 := by
    have h1 := stepsH_le 10 (hsOf A0)
    rw [hTT] at h1
    have h2 := congrArg List.length hp.eq
    have h3 : (hsOf A0).length = A0.length := List.length_map ..
    simp at h2
    omega
  rw [hTT]
  clear h hp hTT hn
  go_enter Tryd.func32, Tryd.ntmps32
  go_wp2_with fail
  go_loopg [5, 6, 7] 10 (fun k v5 v6 v7 wr => ∃ (x : N) (pre suf : List N) (c : Nat), v5 = .int .i64 (c : Int) ∧ v6 = .pointer (some ⟨x.b, 0, none⟩) ∧ v7 = .int .i64 ((k : Int) - 1) ∧ Hid (k ≤ 10 ∧ hd :: A0 = pre ++ x :: suf ∧ k ≤ x.h ∧ (∀ y ∈ suf, y.h ≤ k) ∧ c + stepsH k (hsOf suf) = T) ∧ Hid (w = wr))
  case atStart => exact ⟨hd, [], A0, 0, rfl, rfl, rfl, ⟨Nat.le_refl _, rfl, by rw [HT.out.hh]; exact Nat.le_refl _, fun y hy => by rw [HT.out.hs y (by rw [HS.out]; exact List.mem_append_left _ hy)]; exact hgt_le _, by rw [Nat.zero_add]; exact HTT.out⟩, rfl⟩
  case round =>
    obtain ⟨x, pre, suf, c, rfl, rfl, rfl, hi, hw⟩ := hrel
    clear hl
    obtain ⟨k, hk⟩ : ∃ k, gk = k := ⟨_, rfl⟩
    rw [hk] at hi ⊢
    cases k with
    | zero =>
      have t1 : decide ((((0 : Nat)) : Int) - 1 ≥ 0) = false := by simp
      have t2 : decide (((0 : Int)) - 1 ≥ 0) = false := by simp
      have t3 : decide ((-1 : Int) ≥ 0) = false := by simp
      have HC : Hid (c = T) := by have := hi.out.2.2.2.2; simp only [stepsH] at this; exact (by omega : c = T)
      go_wp2_with fail
      go_ret
      exact ⟨by rw [← HC.out]; rfl, hw.out⟩
    | succ k =>
      rw [show (((k + 1 : Nat) : Int) - 1) = (k : Int) by omega]
      have hk10 : k < 10 := hi.out.1
      have k0 : (0 : Int) ≤ (k : Int) := by omega
      have k1 : (k : Int) < 10 := by omega
      have t1 : decide ((k : Int) ≥ 0) = true := by simp
      have t1' : decide (0 ≤ (k : Int)) = true := by simp
      have HK := Lib.hid hk
      clear hk
      go_wp2_with fail
      go_loopg [5, 6] suf.length (fun kk v5 v6 wi => ∃ (y : N) (pre' suf' : List N) (c : Nat), v5 = .int .i64 (c : Int) ∧ v6 = .pointer (some ⟨y.b, 0, none⟩) ∧ Hid (suf'.length ≤ kk ∧ hd :: A0 = pre' ++ y :: suf' ∧ k < y.h ∧ (∀ z ∈ suf', z.h ≤ k + 1) ∧ c + (((hsOf suf').filter fun x => decide (k < x)).length + stepsH k (afterH k (hsOf suf'))) = T) ∧ Hid (w = wi))
      case atStart => exact ⟨x, pre, suf, c, rfl, rfl, ⟨Nat.le_refl _, hi.out.2.1, by have := hi.out.2.2.1; omega, hi.out.2.2.2.1, hi.out.2.2.2.2⟩, hw⟩
      case round =>
        obtain ⟨y, pre', suf', c, rfl, rfl, hj, hw2⟩ := hrel
        have hTn : Hid (Turn Nope w wr) := by have := hw2.out; subst this; exact Turn.refl _ _
        have hyA : y ∈ hd :: A0 := by rw [hj.out.2.1]; simp
        have hyL : y ∈ hd :: ns := by
          rw [HS.out]
          rcases List.mem_cons.1 hyA with h | h
          · rw [h]; exact List.mem_cons_self
          · exact List.mem_cons_of_mem _ (List.mem_append_left _ h)
        have hN := (HT.out.mem.at_ y hyL).keep hTn.out (fun h => h) (fun h => h)
        have n2 := blk_cell hN.nd 2
        simp only [List.getElem?_toArray, List.getElem?_cons_zero, List.getElem?_cons_succ] at n2
        have nr := blk_cell hN.row k
        rw [rowOf_at _ _ hj.out.2.2.1, HT.out.links pre' y (suf' ++ B) (by rw [HS.out, ← List.cons_append, hj.out.2.1]; simp) k hj.out.2.2.1] at nr
        have hkh : (k : Int) < (y.h : Int) := by have := hj.out.2.2.1; omega
        have HSUB : Hid (∀ z ∈ suf' ++ B, z ∈ hd :: ns) := fun z hz => by
          rw [HS.out, ← List.cons_append, hj.out.2.1]
          rcases List.mem_append.1 hz with h | h <;> simp [h]
        clear hyA hyL hN
        have hcT : c ≤ T := by have := hj.out.2.2.2.2; omega
        have hw1 : wrap64 ((c : Int) + 1) = (c : Int) + 1 := IntWalk.wrap64_in _ ⟨by omega, by omega⟩
        rcases bef_or (suf := suf') k with ⟨p1, z, p2, e1, e2, e3⟩ | hlow
        · have hzm : z ∈ suf' ++ B := by rw [e1]; simp
          have hZ := (HT.out.mem.at_ z (HSUB.out z hzm)).keep hTn.out (fun h => h) (fun h => h)
          have z0 := blk_cell hZ.nd 0
          simp only [List.getElem?_toArray, List.getElem?_cons_zero] at z0
          have hzv : z.vs ≤ v := by
            have hz2 : z ∈ A0 := by
              have h2 := hj.out.2.1
              cases pre' with
              | nil => injection h2 with _ h2; rw [h2, e1]; simp
              | cons c p => injection h2 with _ h2; rw [h2, e1]; simp
            exact HA.out z hz2
          have d1 : decide (z.vs ≤ v) = true := by simpa using hzv
          rw [e1, List.append_assoc, nxt_low e3, List.cons_append, nxt_cons e2] at nr
          unfold ptrV at nr
          have HE := Lib.hid (And.intro e1 (And.intro e2 e3))
          clear e1 e2 e3 hzv hzm hZ
          go_wp2_with fail
          go_roundg p2.length
          case measure =>
            have h1 := hj.out.1
            rw [HE.out.1] at h1
            simp at h1; omega
          case rel =>
            refine ⟨z, pre' ++ y :: p1, p2, c + 1, by go_num, rfl, ⟨Nat.le_refl _, by rw [hj.out.2.1, HE.out.1]; simp, HE.out.2.1, fun q hq => hj.out.2.2.2.1 q (by rw [HE.out.1]; simp [hq]), ?_⟩, hw2⟩
            have h1 := hj.out.2.2.2.2
            rw [HE.out.1, hsOf_app, show hsOf (z :: p2) = z.h :: hsOf p2 from rfl, filter_high HE.out.2.1 _ (hsOf_mem HE.out.2.2), afterH_high HE.out.2.1] at h1
            omega
        · rw [nxt_low hlow] at nr
          have hw1' : wrap64 ((k : Int) - 1) = (k : Int) - 1 := IntWalk.wrap64_in _ ⟨by omega, by omega⟩
          have HLOW := Lib.hid hlow
          clear hlow
          cases hf : B.find? (fun z => decide (k < z.h)) with
          | none =>
            have e0 : nxt k B = none := by unfold nxt; rw [hf]; rfl
            rw [e0] at nr
            unfold ptrV at nr
            clear e0 hf
            go_wp2_with fail
            go_roundg k
            case measure => have := HK.out; omega
            case rel =>
              refine ⟨y, pre', suf', c, rfl, rfl, rfl, ⟨by omega, hj.out.2.1, by have := hj.out.2.2.1; omega, HLOW.out, ?_⟩, hw2⟩
              have h1 := hj.out.2.2.2.2
              rw [filter_low (hsOf_mem HLOW.out), afterH_low (hsOf_mem HLOW.out)] at h1
              simpa using h1
          | some z =>
            have hzB : z ∈ B := List.mem_of_find?_eq_some hf
            have e0 : nxt k B = some z.b := by unfold nxt; rw [hf]; rfl
            have hZ := (HT.out.mem.at_ z (HSUB.out z (List.mem_append_right _ hzB))).keep hTn.out (fun h => h) (fun h => h)
            have z0 := blk_cell hZ.nd 0
            simp only [List.getElem?_toArray, List.getElem?_cons_zero] at z0
            have hzv := HB.out z hzB
            have d1 : decide (z.vs ≤ v) = false := by simpa using hzv
            rw [e0] at nr
            unfold ptrV at nr
            clear e0 hf hzB hZ hzv
            go_wp2_with fail
            go_roundg k
            case measure => have := HK.out; omega
            case rel =>
              refine ⟨y, pre', suf', c, rfl, rfl, rfl, ⟨by omega, hj.out.2.1, by have := hj.out.2.2.1; omega, HLOW.out, ?_⟩, hw2⟩
              have h1 := hj.out.2.2.2.2
              rw [filter_low (hsOf_mem HLOW.out), afterH_low (hsOf_mem HLOW.out)] at h1
              simpa using h1
theorem tsteps {t : List (Int × ByteArray)} (h : Tw w F l t) (hn : t.length ≤ 1000000) (v : Int) :
    Calls Tryd.prog 32 #[.pointer (some ⟨l, 0, none⟩), .int .i64 v] w fun e w' => e = .returned (.int .i64 (stepsT v t : Nat)) ∧ w = w' := by
  obtain ⟨hd, ns, f, h, rfl⟩ := h
  have hp := h.parted (v + 1)
  have e : stepsT v (tOf ns) = stepsH 10 (hsOf (ns.takeWhile (below (v + 1)))) := by
    unfold stepsT
    congr 1
    have h1 : (tOf ns).filter (fun x => decide (x.1 ≤ v)) = tOf (ns.takeWhile (below (v + 1))) := by
      conv => lhs; rw [hp.eq]
      rw [tOf_app, List.filter_append, filter_le (fun y hy => by have := hp.lo y hy; omega), filter_gt (fun y hy => by have := hp.hi y hy; omega), List.append_nil]
    rw [h1]
    unfold tOf hsOf
    rw [List.map_map]
    refine List.map_congr_left fun x hx => ?_
    exact (h.hs x (by rw [hp.eq]; exact List.mem_append_left _ hx)).symm
  rw [e]
  exact steps_at h (by unfold tOf at hn; rwa [List.length_map] at hn) v hp
end Go.Proofs.YtdkojpfhmohaeaaDoor.TS
