/- On each level the last node below a version: the walk. -/
import Derived.Test.YtdkojpfhmohaeaaDoorTSMem
set_option linter.unusedVariables false
namespace Go.Proofs.YtdkojpfhmohaeaaDoor.TS
open Go.RowKit Go.Proofs.TowerPlain
variable {w w' w0 : World} {F G : Nat → Prop} {L : List N} {f : Nat → Nat → Option Nat} {x y hd : N} {ns : List N} {l : Nat}
/-- What before hands back. -/
def outA (gg : Nat → Nat) (k : Nat) : Array Value := ((List.range 10).map fun h => if k ≤ h then Value.pointer (some ⟨gg h, 0, none⟩) else Value.pointer none).toArray
theorem outA_set (gg : Nat → Nat) (k b : Nat) (hk : k < 10) : (outA gg (k + 1)).setIfInBounds k (.pointer (some ⟨b, 0, none⟩)) = outA (fun h => if h = k then b else gg h) k := by
  apply Array.ext_getElem?
  intro i
  rw [Array.getElem?_setIfInBounds]
  unfold outA
  by_cases hi : i < 10
  · by_cases h1 : k = i
    · subst h1; simp [hi]
    · simp [hi, h1]
      by_cases h2 : k ≤ i
      · rw [if_pos (show k + 1 ≤ i by omega), if_pos h2, if_neg (fun e => h1 e.symm)]
      · rw [if_neg (show ¬ k + 1 ≤ i by omega), if_neg h2]
  · simp [hi]
    omega
theorem outA_none (gg : Nat → Nat) : outA gg 10 = Array.replicate 10 (.pointer none) := by rfl
theorem bef_or {suf : List N} (h : Nat) : (∃ p1 y p2, suf = p1 ++ y :: p2 ∧ h < y.h ∧ ∀ z ∈ p1, z.h ≤ h) ∨ ∀ z ∈ suf, z.h ≤ h := by
  induction suf with
  | nil => exact .inr fun _ h => by cases h
  | cons c s ih =>
    by_cases hc : h < c.h
    · exact .inl ⟨[], c, s, rfl, hc, fun _ h => by cases h⟩
    · rcases ih with ⟨p1, y, p2, h1, h2, h3⟩ | h1
      · refine .inl ⟨c :: p1, y, p2, by rw [h1]; rfl, h2, fun z hz => ?_⟩
        rcases List.mem_cons.1 hz with rfl | hz
        · omega
        · exact h3 z hz
      · refine .inr fun z hz => ?_
        rcases List.mem_cons.1 hz with rfl | hz
        · omega
        · exact h1 z hz
theorem mk10 (w : World) : (Instr.makeSlice 69 (.int .i64 10) (.int .i64 10)).run Tryd.prog w = .ok (.slice (some ⟨w.heap.size, 0, none⟩) 10 10) (w.alloc (.cells (outA (fun _ => 0) 10) 68)) := by kernel_rfl
attribute [local go_sem] mk10
def below (v : Int) (x : N) : Bool := decide (x.vs < v)
set_option maxRecDepth 8000 in
set_option maxHeartbeats 4000000 in
theorem before_any (h : TwAt w F l hd ns f) (v : Int) :
    Calls Tryd.prog 38 #[.pointer (some ⟨l, 0, none⟩), .int .i64 v] w fun e w' => ∃ g gg, e = .returned (.slice (some ⟨g, 0, none⟩) 10 10) ∧ w'.heap[g]? = some (.cells (outA gg 0) 68 (0, 0)) ∧ w.heap.size ≤ g ∧ Turn Nope w w' ∧ ∀ h, h < 10 → Bef (hd :: ns.takeWhile (below v)) h (gg h) := by
  have HT := Lib.hid h
  have hB : ∀ y ∈ ns.dropWhile (below v), v ≤ y.vs := by
    have hs := h.sorted
    clear h HT
    induction ns with
    | nil => intro y hy; cases hy
    | cons c s ih =>
      have h1 := List.pairwise_cons.1 hs
      by_cases hc : below v c = true
      · rw [List.dropWhile_cons_of_pos hc]; exact ih h1.2
      · rw [List.dropWhile_cons_of_neg hc]
        intro y hy
        have hc' : v ≤ c.vs := by simpa [below] using hc
        rcases List.mem_cons.1 hy with rfl | hy
        · exact hc'
        · have := h1.1 y hy; omega
  have hA : ∀ y ∈ ns.takeWhile (below v), y.vs < v := fun y hy => by have := List.all_takeWhile (p := below v) (l := ns); rw [List.all_eq_true] at this; simpa [below] using this y hy
  have HA := Lib.hid hA
  have HB := Lib.hid hB
  have HS := Lib.hid (List.takeWhile_append_dropWhile (p := below v) (l := ns)).symm
  clear hA hB h
  obtain ⟨A0, hA0⟩ : ∃ A0, ns.takeWhile (below v) = A0 := ⟨_, rfl⟩
  obtain ⟨B, hB0⟩ : ∃ B, ns.dropWhile (below v) = B := ⟨_, rfl⟩
  rw [hA0, hB0] at HS
  rw [hA0] at HA ⊢
  rw [hB0] at HB
  clear hA0 hB0
  have hl := blk_cell HT.out.hl 0
  simp only [List.getElem?_toArray, List.getElem?_cons_zero] at hl
  have hll := blk_lt HT.out.hl
  have HSZ : Hid (∀ x ∈ hd :: ns, x.b < w.heap.size ∧ x.r < w.heap.size) := fun x hx => (HT.out.mem.at_ x hx).lt
  go_enter Tryd.func38, Tryd.ntmps38
  go_wp2_with fail
  have HG : Hid ((w.alloc (.cells (outA (fun _ => 0) 10) 68)).heap[w.heap.size]? = some (.cells (outA (fun _ => 0) 10) 68 (0, 0))) := blk_new _ _
  have HT1 : Hid (Turn Nope w (w.alloc (.cells (outA (fun _ => 0) 10) 68))) := (Turn.refl _ _).alloc _
  generalize w.alloc (.cells (outA (fun _ => 0) 10) 68) = wa at *
  go_loopg [6, 7] 10 (fun k v6 v7 wr => ∃ (x : N) (pre suf : List N) (gg : Nat → Nat), v6 = .pointer (some ⟨x.b, 0, none⟩) ∧ v7 = .int .i64 ((k : Int) - 1) ∧ Hid (k ≤ 10 ∧ hd :: A0 = pre ++ x :: suf ∧ k ≤ x.h ∧ (∀ y ∈ suf, y.h ≤ k) ∧ wr.heap[w.heap.size]? = some (.cells (outA gg k) 68 (0, 0)) ∧ Turn Nope w wr ∧ ∀ h, k ≤ h → h < 10 → Bef (hd :: A0) h (gg h)))
  case atStart => exact ⟨hd, [], A0, fun _ => 0, rfl, rfl, Nat.le_refl _, rfl, by rw [HT.out.hh]; exact Nat.le_refl _, fun y hy => by rw [HT.out.hs y (by rw [HS.out]; exact List.mem_append_left _ hy)]; exact hgt_le _, HG.out, HT1.out, fun h h1 h2 => by omega⟩
  case round =>
    obtain ⟨x, pre, suf, gg, rfl, rfl, hi⟩ := hrel
    clear HG HT1 hl hll
    obtain ⟨k, hk⟩ : ∃ k, gk = k := ⟨_, rfl⟩
    rw [hk] at hi ⊢
    cases k with
    | zero =>
      have t1 : decide ((((0 : Nat)) : Int) - 1 ≥ 0) = false := by simp
      have t2 : decide (((0 : Int)) - 1 ≥ 0) = false := by simp
      have t3 : decide ((-1 : Int) ≥ 0) = false := by simp
      go_wp2_with fail
      go_ret
      exact ⟨_, gg, rfl, hi.out.2.2.2.2.1, Nat.le_refl _, hi.out.2.2.2.2.2.1, fun h hh => hi.out.2.2.2.2.2.2 h (Nat.zero_le _) hh⟩
    | succ k =>
      rw [show (((k + 1 : Nat) : Int) - 1) = (k : Int) by omega]
      have hk10 : k < 10 := hi.out.1
      have k0 : (0 : Int) ≤ (k : Int) := by omega
      have k1 : (k : Int) < 10 := by omega
      have t1 : decide ((k : Int) ≥ 0) = true := by simp
      have t1' : decide (0 ≤ (k : Int)) = true := by simp
      have HK := Lib.hid hk
      clear hk
      go_wp2_with fail
      go_loopg [6] suf.length (fun kk v6 wi => ∃ (y : N) (pre' suf' : List N), v6 = .pointer (some ⟨y.b, 0, none⟩) ∧ Hid (suf'.length ≤ kk ∧ hd :: A0 = pre' ++ y :: suf' ∧ k < y.h ∧ (∀ z ∈ suf', z.h ≤ k + 1) ∧ wi.heap[w.heap.size]? = some (.cells (outA gg (k + 1)) 68 (0, 0)) ∧ Turn Nope w wi))
      case atStart => exact ⟨x, pre, suf, rfl, Nat.le_refl _, hi.out.2.1, by have := hi.out.2.2.1; omega, hi.out.2.2.2.1, hi.out.2.2.2.2.1, hi.out.2.2.2.2.2.1⟩
      case round =>
        obtain ⟨y, pre', suf', rfl, hj⟩ := hrel
        have hyA : y ∈ hd :: A0 := by rw [hj.out.2.1]; simp
        have hyL : y ∈ hd :: ns := by
          rw [HS.out]
          rcases List.mem_cons.1 hyA with h | h
          · rw [h]; exact List.mem_cons_self
          · exact List.mem_cons_of_mem _ (List.mem_append_left _ h)
        have hN := (HT.out.mem.at_ y hyL).keep hj.out.2.2.2.2.2 (fun h => h) (fun h => h)
        have n2 := blk_cell hN.nd 2
        simp only [List.getElem?_toArray, List.getElem?_cons_zero, List.getElem?_cons_succ] at n2
        have nr := blk_cell hN.row k
        rw [rowOf_at _ _ hj.out.2.2.1, HT.out.links pre' y (suf' ++ B) (by rw [HS.out, ← List.cons_append, hj.out.2.1]; simp) k hj.out.2.2.1] at nr
        have hkh : (k : Int) < (y.h : Int) := by have := hj.out.2.2.1; omega
        have HSUB : Hid (∀ z ∈ suf' ++ B, z ∈ hd :: ns) := fun z hz => by
          rw [HS.out, ← List.cons_append, hj.out.2.1]
          rcases List.mem_append.1 hz with h | h <;> simp [h]
        have hN := Lib.hid hN
        clear hyA hyL
        rcases bef_or (suf := suf') k with ⟨p1, z, p2, e1, e2, e3⟩ | hlow
        · have hzm : z ∈ suf' ++ B := by rw [e1]; simp
          have hZ := (HT.out.mem.at_ z (HSUB.out z hzm)).keep hj.out.2.2.2.2.2 (fun h => h) (fun h => h)
          have z0 := blk_cell hZ.nd 0
          simp only [List.getElem?_toArray, List.getElem?_cons_zero] at z0
          have hzv : z.vs < v := by
            have hz2 : z ∈ A0 := by
              have h1 : (hd :: A0).tail = A0 := rfl
              have h2 := hj.out.2.1
              cases pre' with
              | nil => injection h2 with _ h2; rw [h2, e1]; simp
              | cons c p => injection h2 with _ h2; rw [h2, e1]; simp
            exact HA.out z hz2
          have d1 : decide (z.vs < v) = true := by simpa using hzv
          rw [e1, List.append_assoc, nxt_low e3, List.cons_append, nxt_cons e2] at nr
          unfold ptrV at nr
          have HE := Lib.hid (And.intro e1 (And.intro e2 hzv))
          clear e1 e2 e3 hzv hzm hZ
          go_wp2_with fail
          go_roundg p2.length
          case measure =>
            have h1 := hj.out.1
            rw [HE.out.1] at h1
            simp at h1; omega
          case rel =>
            refine ⟨z, pre' ++ y :: p1, p2, rfl, Nat.le_refl _, by rw [hj.out.2.1, HE.out.1]; simp, HE.out.2.1, fun q hq => hj.out.2.2.2.1 q (by rw [HE.out.1]; simp [hq]), hj.out.2.2.2.2⟩
        · have HBEF : Hid (Bef (hd :: A0) k y.b) := ⟨pre', y, suf', hj.out.2.1, rfl, hj.out.2.2.1, hlow⟩
          rw [nxt_low hlow] at nr
          have HOUT : Hid ((wr.setCell ⟨w.heap.size, k, none⟩ (.pointer (some ⟨y.b, 0, none⟩))).heap[w.heap.size]? = some (.cells (outA (fun h => if h = k then y.b else gg h) k) 68 (0, 0))) := by
            show _ = _
            rw [← outA_set _ _ _ hk10]
            exact blk_set hj.out.2.2.2.2.1 k _
          have HTO : Hid (Turn Nope w (wr.setCell ⟨w.heap.size, k, none⟩ (.pointer (some ⟨y.b, 0, none⟩)))) := hj.out.2.2.2.2.2.set_new (Nat.le_refl _) _
          have g0 := blk_cell hj.out.2.2.2.2.1 k
          have gf := blk_frozen hj.out.2.2.2.2.1 k
          have gk0 : (outA gg (k + 1))[k]? = some (.pointer none) := by unfold outA; simp [hk10]
          rw [gk0] at g0
          have hw1 : wrap64 ((k : Int) - 1) = (k : Int) - 1 := IntWalk.wrap64_in _ ⟨by omega, by omega⟩
          clear gk0 hlow
          cases hf : B.find? (fun z => decide (k < z.h)) with
          | none =>
            have e0 : nxt k B = none := by unfold nxt; rw [hf]; rfl
            rw [e0] at nr
            unfold ptrV at nr
            clear e0 hf
            go_wp2_with fail
            go_roundg k
            case measure => have := HK.out; omega
            case rel =>
              refine ⟨y, pre', suf', _, rfl, rfl, by omega, hj.out.2.1, by have := hj.out.2.2.1; omega, ?_, HOUT.out, HTO.out, ?_⟩
              · obtain ⟨p, z, q, h1, h2, h3, h4⟩ := HBEF.out
                obtain ⟨_, _, e3⟩ := nodup_split (by have := HT.out.mem.nb; rw [HS.out, ← List.cons_append, Bs, List.map_append] at this; exact (List.nodup_append.1 this).1) h1 hj.out.2.1 h2
                rw [← e3]; exact h4
              · intro h h1 h2
                by_cases e : h = k
                · subst e; rw [if_pos rfl]; exact HBEF.out
                · rw [if_neg e]; exact hi.out.2.2.2.2.2.2 h (by omega) h2
          | some z =>
            have hzB : z ∈ B := List.mem_of_find?_eq_some hf
            have e0 : nxt k B = some z.b := by unfold nxt; rw [hf]; rfl
            have hZ := (HT.out.mem.at_ z (HSUB.out z (List.mem_append_right _ hzB))).keep hj.out.2.2.2.2.2 (fun h => h) (fun h => h)
            have z0 := blk_cell hZ.nd 0
            simp only [List.getElem?_toArray, List.getElem?_cons_zero] at z0
            have hzv := HB.out z hzB
            have d1 : decide (z.vs < v) = false := by simpa using hzv
            rw [e0] at nr
            unfold ptrV at nr
            clear e0 hf hzB hZ hzv
            go_wp2_with fail
            go_roundg k
            case measure => have := HK.out; omega
            case rel =>
              refine ⟨y, pre', suf', _, rfl, rfl, by omega, hj.out.2.1, by have := hj.out.2.2.1; omega, ?_, HOUT.out, HTO.out, ?_⟩
              · obtain ⟨p, z, q, h1, h2, h3, h4⟩ := HBEF.out
                obtain ⟨_, _, e3⟩ := nodup_split (by have := HT.out.mem.nb; rw [HS.out, ← List.cons_append, Bs, List.map_append] at this; exact (List.nodup_append.1 this).1) h1 hj.out.2.1 h2
                rw [← e3]; exact h4
              · intro h h1 h2
                by_cases e : h = k
                · subst e; rw [if_pos rfl]; exact HBEF.out
                · rw [if_neg e]; exact hi.out.2.2.2.2.2.2 h (by omega) h2
end Go.Proofs.YtdkojpfhmohaeaaDoor.TS
