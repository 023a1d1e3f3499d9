/- Floor of a tower: the walk. -/
import Derived.Test.YtdkojpfhmohaeaaDoorTSSmall
import Derived.Deep.QuietTactic
import Derived.LaidEql
set_option linter.unusedVariables false
namespace Go.Proofs.YtdkojpfhmohaeaaDoor.TS
open Go.RowKit Go.Proofs.TowerPlain
variable {w w' w0 : World} {F G : Nat → Prop} {L : List N} {f : Nat → Nat → Option Nat} {x y hd : N} {ns : List N} {l : Nat}
theorem bef0 {A : List N} (hA : ∀ x ∈ A, 1 ≤ x.h) {b : Nat} (h : Bef A 0 b) : ∃ pre z, A = pre ++ [z] ∧ z.b = b := by
  obtain ⟨pre, z, suf, h1, h2, h3, h4⟩ := h
  cases suf with
  | nil => exact ⟨pre, z, h1, h2⟩
  | cons c s =>
    have e1 := h4 c List.mem_cons_self
    have e2 := hA c (by rw [h1]; simp)
    omega
theorem nxt0 {B : List N} (hB : ∀ x ∈ B, 1 ≤ x.h) : nxt 0 B = B.head?.map (·.b) := by
  cases B with
  | nil => rfl
  | cons c s => rw [nxt_cons (hB c List.mem_cons_self)]; rfl
/-- A tower parted at a version. -/
structure Parted (hd : N) (ns A0 B : List N) (v : Int) : Prop where
  eq : ns = A0 ++ B
  lo : ∀ y ∈ A0, y.vs < v
  hi : ∀ y ∈ B, v ≤ y.vs
theorem TwAt.parted (h : TwAt w F l hd ns f) (v : Int) : Parted hd ns (ns.takeWhile (below v)) (ns.dropWhile (below v)) v := by
  refine ⟨List.takeWhile_append_dropWhile.symm, fun y hy => by have := List.all_takeWhile (p := below v) (l := ns); rw [List.all_eq_true] at this; simpa [below] using this y hy, ?_⟩
  have hs := h.sorted
  clear h
  induction ns with
  | nil => intro y hy; cases hy
  | cons c s ih =>
    have h1 := List.pairwise_cons.1 hs
    by_cases hc : below v c = true
    · rw [List.dropWhile_cons_of_pos hc]; exact ih h1.2
    · rw [List.dropWhile_cons_of_neg hc]
      intro y hy
      have hc' : v ≤ c.vs := by simpa [below] using hc
      rcases List.mem_cons.1 hy with rfl | hy
      · exact hc'
      · have := h1.1 y hy; omega
theorem TwAt.h1 (h : TwAt w F l hd ns f) : ∀ x ∈ hd :: ns, 1 ≤ x.h := by
  intro x hx
  rcases List.mem_cons.1 hx with rfl | hx
  · rw [h.hh]; decide
  · rw [h.hs x hx]; exact hgt_pos _
/-- The greatest one that isn't above. -/
def floorT (v : Int) (t : List (Int × ByteArray)) : Option (Int × ByteArray) := (t.filter fun x => decide (x.1 ≤ v)).getLast?
def floorR : Option (Int × ByteArray) → Value
  | some r => .tuple #[.int .i64 r.1, .string r.2, .bool true]
  | none => .tuple #[.int .i64 0, .string (⟨#[]⟩ : ByteArray), .bool false]
theorem filter_le {ns : List N} {v : Int} (h : ∀ y ∈ ns, y.vs ≤ v) : (tOf ns).filter (fun x => decide (x.1 ≤ v)) = tOf ns := by
  rw [List.filter_eq_self]
  intro a ha
  obtain ⟨y, hy, rfl⟩ := List.mem_map.1 ha
  simpa using h y hy
theorem filter_gt {ns : List N} {v : Int} (h : ∀ y ∈ ns, v < y.vs) : (tOf ns).filter (fun x => decide (x.1 ≤ v)) = [] := by
  rw [List.filter_eq_nil_iff]
  intro a ha
  obtain ⟨y, hy, rfl⟩ := List.mem_map.1 ha
  have := h y hy
  simp; omega
theorem tOf_app (A B : List N) : tOf (A ++ B) = tOf A ++ tOf B := List.map_append
theorem floor_at {A0 B : List N} {x : N} (hlo : ∀ y ∈ A0, y.vs < x.vs) (hhi : ∀ y ∈ B, x.vs < y.vs) : floorT x.vs (tOf (A0 ++ x :: B)) = some (x.vs, x.v) := by
  unfold floorT
  rw [tOf_app, List.filter_append, filter_le (fun y hy => Int.le_of_lt (hlo y hy))]
  have : (tOf (x :: B)).filter (fun a => decide (a.1 ≤ x.vs)) = [(x.vs, x.v)] := by
    show List.filter _ ((x.vs, x.v) :: tOf B) = _
    rw [List.filter_cons_of_pos (by simp), filter_gt hhi]
  rw [this, List.getLast?_append]
  simp
theorem floor_no {A0 B : List N} {v : Int} (hlo : ∀ y ∈ A0, y.vs < v) (hhi : ∀ y ∈ B, v < y.vs) : floorT v (tOf (A0 ++ B)) = (tOf A0).getLast? := by
  unfold floorT
  rw [tOf_app, List.filter_append, filter_le (fun y hy => Int.le_of_lt (hlo y hy)), filter_gt hhi, List.append_nil]
theorem infoN : ∃ i, Tryd.prog.info? 71 = some i ∧ i.size ≠ 0 := by
  have h : (Tryd.prog.info? 71).map (·.size) = some 3 := by kernel_rfl
  cases hi : Tryd.prog.info? 71 with
  | none => rw [hi] at h; cases h
  | some i =>
    rw [hi] at h
    injection h with h
    have h3 : i.size = 3 := h
    exact ⟨i, rfl, by rw [h3]; decide⟩
theorem equalIn_same (d : Nat) (a : Addr) (W : World) : (Op.equalIn (d + 1) 68 (.pointer (some a)) (.pointer (some a))).run Tryd.prog W = .ok true W := by
  obtain ⟨i, hi, hs⟩ := infoN
  simp [Op.equalIn, run_underlying Tryd.underlying68, typeInfo, sizeOf, run_sameAddr_same, hi]
theorem equalIn_other (d : Nat) {a b : Addr} {W : World} {ca cb : Array Value} {ta tb : TypeId} (hne : a ≠ b) (ha : W.heap[a.block]? = some (.cells ca ta (0, 0))) (hb : W.heap[b.block]? = some (.cells cb tb (0, 0))) :
    (Op.equalIn (d + 1) 68 (.pointer (some a)) (.pointer (some b))).run Tryd.prog W = .ok false W := by
  obtain ⟨i, hi, hs⟩ := infoN
  simp [Op.equalIn, run_underlying Tryd.underlying68, typeInfo, sizeOf, hi, hs, run_sameAddr_other W hne ha hb]
theorem eql_same (a : Addr) (W : World) : (binOp .eql 68 (.pointer (some a)) (.pointer (some a))).run Tryd.prog W = .ok (.bool true) W := by
  simp only [binOp]
  simp [Op.equal, Op.maxDepth, equalIn_same 9999 a W]
theorem eql_other {a b : Addr} {W : World} {ca cb : Array Value} {ta tb : TypeId} (hne : a ≠ b) (ha : W.heap[a.block]? = some (.cells ca ta (0, 0))) (hb : W.heap[b.block]? = some (.cells cb tb (0, 0))) :
    (binOp .eql 68 (.pointer (some a)) (.pointer (some b))).run Tryd.prog W = .ok (.bool false) W := by
  simp only [binOp]
  simp [Op.equal, Op.maxDepth, equalIn_other 9999 hne ha hb]
set_option maxRecDepth 8000 in
set_option maxHeartbeats 8000000 in
theorem tfloor {t : List (Int × ByteArray)} (h : Tw w F l t) (v : Int) : Calls Tryd.prog 27 #[.pointer (some ⟨l, 0, none⟩), .int .i64 v] w fun e w' => e = .returned (floorR (floorT v t)) ∧ Turn Nope w w' := by
  obtain ⟨hd, ns, f, h, rfl⟩ := h
  have HC := Lib.hid (before_any h v)
  have HP := Lib.hid (h.parted v)
  have HT := Lib.hid h
  clear h
  obtain ⟨A0, hA0⟩ : ∃ A0, ns.takeWhile (below v) = A0 := ⟨_, rfl⟩
  obtain ⟨B, hB0⟩ : ∃ B, ns.dropWhile (below v) = B := ⟨_, rfl⟩
  rw [hA0, hB0] at HP
  rw [hA0] at HC
  clear hA0 hB0
  have HF : Hid (∃ R, floorR (floorT v (tOf ns)) = R) := ⟨_, rfl⟩
  obtain ⟨R, hR⟩ := HF.out
  rw [hR]
  have HR := Lib.hid hR
  clear hR HF
  have HH : Hid (∀ y ∈ hd :: ns, 1 ≤ y.h) := HT.out.h1
  go_enter Tryd.func27, Tryd.ntmps27
  go_wp2_with fail
  refine HC.out.mono ?_
  rintro e w1 ⟨g, gg, rfl, hg, hgs, ht, hb⟩
  obtain ⟨pre, z, e1, e2⟩ := bef0 (fun x hx => HH.out x (by rw [HP.out.eq]; rcases List.mem_cons.1 hx with h | h <;> simp [h])) (hb 0 (by decide))
  have hzL : z ∈ hd :: ns := by rw [HP.out.eq, ← List.cons_append, e1]; simp
  have HZ := Lib.hid ((HT.out.mem.at_ z hzL).keep ht (fun h => h) (fun h => h))
  have HLB := Lib.hid (ht.blk HT.out.hl fun h => h)
  have g0 := blk_cell hg 0
  rw [show (outA gg 0)[0]? = some (.pointer (some ⟨gg 0, 0, none⟩)) by simp [outA], ← e2] at g0
  have z2 := blk_cell HZ.out.nd 2
  have zr := blk_cell HZ.out.row 0
  have l0 := blk_cell HLB.out 0
  rw [rowOf_at _ _ (HH.out z hzL), HT.out.links pre z B (by rw [HP.out.eq, ← List.cons_append, e1]; simp) 0 (HH.out z hzL), nxt0 (fun x hx => HH.out x (by rw [HP.out.eq]; simp [hx]))] at zr
  simp only [List.getElem?_toArray, List.getElem?_cons_zero, List.getElem?_cons_succ] at z2 l0
  have HB1 := Lib.hid (And.intro e1 hzL)
  have zh : (0 : Int) < (z.h : Int) := by have := HH.out z hzL; omega
  have HT1 := Lib.hid ht
  clear e1 e2 hb hgs ht hzL hg HC
  have fin : ∀ r : Option (Int × ByteArray), floorT v (tOf ns) = r → R = floorR r := fun r hr => by rw [← HR.out, hr]
  have FIN := Lib.hid fin
  clear fin
  have NO : Hid ((∀ y ∈ B, v < y.vs) → R = floorR (tOf A0).getLast?) := fun hh => FIN.out _ (by rw [HP.out.eq]; exact floor_no HP.out.lo hh)
  have LAST : Hid ((A0 = [] ∧ z.b = hd.b) ∨ (∃ A1, A0 = A1 ++ [z]) ∧ z.b ≠ hd.b) := by
    have h1 := HB1.out.1
    cases pre with
    | nil =>
      injection h1 with h2 h3
      exact .inl ⟨h3, by rw [h2]⟩
    | cons c p =>
      injection h1 with h2 h3
      refine .inr ⟨⟨p, h3⟩, fun e => ?_⟩
      have hz : z ∈ ns := by rw [HP.out.eq, h3]; simp
      have := HT.out.mem.nb
      simp only [Bs, List.map_cons, List.nodup_cons] at this
      exact this.1 (by rw [← e]; exact List.mem_map_of_mem hz)
  have HD := Lib.hid (HT1.out.blk (HT.out.mem.at_ hd List.mem_cons_self).nd fun h => h)
  have z0 := blk_cell HZ.out.nd 0
  have z1 := blk_cell HZ.out.nd 1
  simp only [List.getElem?_toArray, List.getElem?_cons_zero, List.getElem?_cons_succ] at z0 z1
  cases B with
  | nil =>
    simp only [List.head?_nil, Option.map_none] at zr
    unfold ptrV at zr
    rcases LAST.out with ⟨h1, h2⟩ | ⟨⟨A1, h1⟩, h2⟩
    · have q1 := eql_same ⟨hd.b, 0, none⟩
      rw [h2] at g0 z2 z0 z1
      have HR2 : Hid (R = .tuple #[.int .i64 0, .string (⟨#[]⟩ : ByteArray), .bool false]) := by
        show _ = _
        rw [NO.out (fun y hy => by cases hy), h1]; rfl
      clear h1 h2
      go_wp2_with (first | (go_quiet (fail)))
      go_ret3
      exact ⟨by rw [HR2.out]; rfl, by repeat (first | exact HT1.out | apply Turn.drewN | apply Turn.drew)⟩
    · have q1 := eql_other (W := w1.drew) (a := ⟨z.b, 0, none⟩) (b := ⟨hd.b, 0, none⟩) (fun e => h2 (by injection e)) (blk_drew HZ.out.nd) (blk_drew HD.out)
      have q2 := eql_other (W := w1) (a := ⟨z.b, 0, none⟩) (b := ⟨hd.b, 0, none⟩) (fun e => h2 (by injection e)) HZ.out.nd HD.out
      have q3 := fun n => eql_other (W := w1.drewN n) (a := ⟨z.b, 0, none⟩) (b := ⟨hd.b, 0, none⟩) (fun e => h2 (by injection e)) (blk_drewN HZ.out.nd n) (blk_drewN HD.out n)
      have HR2 : Hid (R = .tuple #[.int .i64 z.vs, .string z.v, .bool true]) := by
        show _ = _
        rw [NO.out (fun y hy => by cases hy), h1, tOf_app, List.getLast?_append]; rfl
      have HE := Lib.hid h1
      clear h1
      go_wp2_with (first | (go_quiet (fail)))
      go_ret3
      exact ⟨by rw [HR2.out]; rfl, by repeat (first | exact HT1.out | apply Turn.drewN | apply Turn.drew)⟩
  | cons x B =>
    simp only [List.head?_cons, Option.map_some] at zr
    unfold ptrV at zr
    have hxL : x ∈ hd :: ns := by rw [HP.out.eq]; simp
    have HX := Lib.hid ((HT.out.mem.at_ x hxL).keep HT1.out (fun h => h) (fun h => h))
    have x0 := blk_cell HX.out.nd 0
    have x1 := blk_cell HX.out.nd 1
    simp only [List.getElem?_toArray, List.getElem?_cons_zero, List.getElem?_cons_succ] at x0 x1
    have HS : Hid (∀ y ∈ B, x.vs < y.vs) := by
      have := HT.out.sorted
      rw [HP.out.eq] at this
      have h2 := (List.pairwise_append.1 this).2.1
      exact (List.pairwise_cons.1 h2).1
    clear hxL
    by_cases hv : x.vs = v
    · have q0 : (x.vs == v) = true := by simpa using hv
      have HR2 : Hid (R = .tuple #[.int .i64 v, .string x.v, .bool true]) := by
        show _ = _
        rw [FIN.out (some (v, x.v)) (by rw [HP.out.eq, ← hv]; exact floor_at (by rw [hv]; exact HP.out.lo) HS.out)]; rfl
      clear hv
      go_wp2_with (first | (go_quiet (fail)))
      go_ret3
      exact ⟨by rw [HR2.out]; rfl, by repeat (first | exact HT1.out | apply Turn.drewN | apply Turn.drew)⟩
    · have q0 : (x.vs == v) = false := by simpa using hv
      have hxv : v ≤ x.vs := HP.out.hi x List.mem_cons_self
      have HNO := Lib.hid (NO.out (fun y hy => by
        rcases List.mem_cons.1 hy with rfl | hy
        · omega
        · have := HS.out y hy; omega))
      clear hv hxv
      rcases LAST.out with ⟨h1, h2⟩ | ⟨⟨A1, h1⟩, h2⟩
      · have q1 := eql_same ⟨hd.b, 0, none⟩
        rw [h2] at g0 z2 z0 z1
        have HR2 : Hid (R = .tuple #[.int .i64 0, .string (⟨#[]⟩ : ByteArray), .bool false]) := by
          show _ = _
          rw [HNO.out, h1]; rfl
        clear h1 h2
        go_wp2_with (first | (go_quiet (fail)))
        go_ret3
        exact ⟨by rw [HR2.out]; rfl, by repeat (first | exact HT1.out | apply Turn.drewN | apply Turn.drew)⟩
      · have q1 := eql_other (W := w1.drew) (a := ⟨z.b, 0, none⟩) (b := ⟨hd.b, 0, none⟩) (fun e => h2 (by injection e)) (blk_drew HZ.out.nd) (blk_drew HD.out)
        have q2 := eql_other (W := w1) (a := ⟨z.b, 0, none⟩) (b := ⟨hd.b, 0, none⟩) (fun e => h2 (by injection e)) HZ.out.nd HD.out
        have q3 := fun n => eql_other (W := w1.drewN n) (a := ⟨z.b, 0, none⟩) (b := ⟨hd.b, 0, none⟩) (fun e => h2 (by injection e)) (blk_drewN HZ.out.nd n) (blk_drewN HD.out n)
        have HR2 : Hid (R = .tuple #[.int .i64 z.vs, .string z.v, .bool true]) := by
          show _ = _
          rw [HNO.out, h1, tOf_app, List.getLast?_append]; rfl
        have HE := Lib.hid h1
        clear h1
        go_wp2_with (first | (go_quiet (fail)))
        go_ret3
        exact ⟨by rw [HR2.out]; rfl, by repeat (first | exact HT1.out | apply Turn.drewN | apply Turn.drew)⟩
end Go.Proofs.YtdkojpfhmohaeaaDoor.TS
