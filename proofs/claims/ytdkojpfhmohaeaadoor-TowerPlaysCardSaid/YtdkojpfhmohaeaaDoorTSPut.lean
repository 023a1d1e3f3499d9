/- Put into a tower: the walk. -/
import Derived.Test.YtdkojpfhmohaeaaDoorTSFloor
set_option linter.unusedVariables false
namespace Go.Proofs.YtdkojpfhmohaeaaDoor.TS
open Go.RowKit Go.Proofs.TowerPlain
variable {w w' w0 : World} {F G : Nat → Prop} {L : List N} {f : Nat → Nat → Option Nat} {x y hd : N} {ns : List N} {l : Nat}
def insT (x : Int × ByteArray) : List (Int × ByteArray) → List (Int × ByteArray)
  | [] => [x]
  | y :: t => if y.1 < x.1 then y :: insT x t else if y.1 = x.1 then x :: t else x :: y :: t
def hasT (v : Int) (t : List (Int × ByteArray)) : Bool := t.any fun y => y.1 == v
theorem insT_low {x : Int × ByteArray} : ∀ {A : List (Int × ByteArray)} (B : List (Int × ByteArray)), (∀ a ∈ A, a.1 < x.1) → insT x (A ++ B) = A ++ insT x B
  | [], _, _ => rfl
  | a :: A, B, h => by
    have h1 := h a List.mem_cons_self
    have h2 := insT_low (x := x) (A := A) B fun b hb => h b (List.mem_cons_of_mem _ hb)
    show (if a.1 < x.1 then a :: insT x (A ++ B) else _) = _
    rw [if_pos h1, h2]; rfl
theorem links_val {A B : List N} {u : ByteArray} (h : Links f (A ++ x :: B)) : Links f (A ++ { x with v := u } :: B) := by
  intro pre y post he k hk
  rcases split_app he with ⟨s, e1, e2⟩ | ⟨p, e1, e2⟩
  · rw [e2, h pre y (s ++ x :: B) (by rw [e1]; simp) k hk]
    unfold nxt
    rw [List.find?_append, List.find?_append]
    cases s.find? (fun y => decide (k < y.h)) with
    | some z => rfl
    | none =>
      by_cases hx : k < x.h
      · rw [List.find?_cons_of_pos (by simpa using hx), List.find?_cons_of_pos (by simpa using hx)]; rfl
      · rw [List.find?_cons_of_neg (by simpa using hx), List.find?_cons_of_neg (by simpa using hx)]
  · cases p with
    | nil =>
      simp only [List.nil_append, List.cons.injEq] at e1
      obtain ⟨rfl, rfl⟩ := e1
      exact h A x B rfl k hk
    | cons c p =>
      simp only [List.cons_append, List.cons.injEq] at e1
      obtain ⟨rfl, e1⟩ := e1
      exact h (A ++ x :: p) y post (by rw [e1]; simp) k hk
/-- The walk's first half, for Put, Floor and Cut. -/
structure Start (w1 : World) (f : Nat → Nat → Option Nat) (hd : N) (A0 B : List N) (l n : Nat) (g : Nat) (gg : Nat → Nat) (z : N) (zp : List N) : Prop where
  eq : hd :: A0 = zp ++ [z]
  zb : z.b = gg 0
  out : w1.heap[g]? = some (.cells (outA gg 0) 68 (0, 0))
  bef : ∀ h, h < 10 → Bef (hd :: A0) h (gg h)
  c0 : w1.cell? ⟨g, 0, none⟩ = some (.pointer (some ⟨z.b, 0, none⟩))
  z2 : w1.cell? ⟨z.b, 2, none⟩ = some (.slice (some ⟨z.r, 0, none⟩) z.h z.h)
  zr : w1.cell? ⟨z.r, 0, none⟩ = some (ptrV (B.head?.map (·.b)))
  zh : (0 : Int) < (z.h : Int)
theorem TwAt.start {w1 : World} {v : Int} {g : Nat} {gg : Nat → Nat} {A0 B : List N} (h : TwAt w F l hd ns f) (hp : Parted hd ns A0 B v) (hg : w1.heap[g]? = some (.cells (outA gg 0) 68 (0, 0))) (ht : Turn Nope w w1) (hb : ∀ h, h < 10 → Bef (hd :: A0) h (gg h)) :
    ∃ z zp, Start w1 f hd A0 B l ns.length g gg z zp := by
  obtain ⟨pre, z, e1, e2⟩ := bef0 (fun x hx => h.h1 x (by rw [hp.eq]; rcases List.mem_cons.1 hx with h | h <;> simp [h])) (hb 0 (by decide))
  have hzL : z ∈ hd :: ns := by rw [hp.eq, ← List.cons_append, e1]; simp
  have hZ := (h.mem.at_ z hzL).keep ht (fun h => h) (fun h => h)
  refine ⟨z, pre, e1, e2, hg, hb, ?_, ?_, ?_, by have := h.h1 z hzL; omega⟩
  · rw [blk_cell hg, show (outA gg 0)[0]? = some (.pointer (some ⟨gg 0, 0, none⟩)) by simp [outA], ← e2]
  · rw [blk_cell hZ.nd]; rfl
  · rw [blk_cell hZ.row, rowOf_at _ _ (h.h1 z hzL), h.links pre z B (by rw [hp.eq, ← List.cons_append, e1]; simp) 0 (h.h1 z hzL), nxt0 (fun x hx => h.h1 x (by rw [hp.eq]; simp [hx]))]
/-- The blocks that a call came to: its own, or new ones. -/
def Sub (w : World) (F F' : Nat → Prop) : Prop := ∀ k, F' k → F k ∨ w.heap.size ≤ k
theorem hasT_no {A0 B : List N} {v : Int} (hlo : ∀ y ∈ A0, y.vs < v) (hhi : ∀ y ∈ B, v < y.vs) : hasT v (tOf (A0 ++ B)) = false := by
  unfold hasT
  rw [List.any_eq_false]
  intro a ha
  obtain ⟨y, hy, rfl⟩ := List.mem_map.1 ha
  have : y.vs ≠ v := by
    rcases List.mem_append.1 hy with h | h
    · have := hlo y h; omega
    · have := hhi y h; omega
  simpa using this
theorem insT_no {A0 B : List N} {v : Int} {u : ByteArray} (hlo : ∀ y ∈ A0, y.vs < v) (hhi : ∀ y ∈ B, v < y.vs) : insT (v, u) (tOf (A0 ++ B)) = tOf A0 ++ (v, u) :: tOf B := by
  rw [tOf_app, insT_low _ (fun a ha => by obtain ⟨y, hy, rfl⟩ := List.mem_map.1 ha; exact hlo y hy)]
  congr 1
  cases B with
  | nil => rfl
  | cons c s =>
    have h1 := hhi c List.mem_cons_self
    show (if c.vs < v then _ else if c.vs = v then _ else _) = _
    rw [if_neg (by omega), if_neg (by omega)]; rfl
theorem mkN (w : World) : ∀ n : Nat, n ≤ 10 → (Instr.makeSlice 69 (.int .i64 (n : Int)) (.int .i64 (n : Int))).run Tryd.prog w = .ok (.slice (some ⟨w.heap.size, 0, none⟩) n n) (w.alloc (.cells (rowOf (fun _ _ => none) 0 n) 68))
  | 0, _ => by kernel_rfl
  | 1, _ => by kernel_rfl
  | 2, _ => by kernel_rfl
  | 3, _ => by kernel_rfl
  | 4, _ => by kernel_rfl
  | 5, _ => by kernel_rfl
  | 6, _ => by kernel_rfl
  | 7, _ => by kernel_rfl
  | 8, _ => by kernel_rfl
  | 9, _ => by kernel_rfl
  | 10, _ => by kernel_rfl
  | n + 11, h => absurd h (by omega)
set_option maxRecDepth 8000 in
set_option maxHeartbeats 4000000 in
theorem put_hit {A0 B : List N} {v : Int} (h : TwAt w F l hd ns f) (hp : Parted hd ns A0 (x :: B) v) (hA : ns.takeWhile (below v) = A0) (hv : x.vs = v) (u : ByteArray) :
    Calls Tryd.prog 23 #[.pointer (some ⟨l, 0, none⟩), .int .i64 v, .string u] w fun e w' => e = .returned (.bool true) ∧ Tw w' F l (insT (v, u) (tOf ns)) ∧ hasT v (tOf ns) = true ∧ Turn F w w' := by
  have HC := Lib.hid (before_any h v)
  rw [hA] at HC
  have HP := Lib.hid hp
  have HT := Lib.hid h
  have HV := Lib.hid hv
  have q0 : (x.vs == v) = true := by simpa using hv
  have hxL : x ∈ hd :: ns := by rw [hp.eq]; simp
  have HXL := Lib.hid hxL
  clear h hp hA hv hxL
  go_enter Tryd.func23, Tryd.ntmps23
  go_wp2_with fail
  refine HC.out.mono ?_
  rintro e w1 ⟨g, gg, rfl, hg, hgs, ht, hb⟩
  obtain ⟨z, zp, hs⟩ := HT.out.start HP.out hg ht hb
  have c0 := hs.c0
  have z2 := hs.z2
  have zr := hs.zr
  have zh := hs.zh
  simp only [List.head?_cons, Option.map_some] at zr
  unfold ptrV at zr
  have HX := Lib.hid ((HT.out.mem.at_ x HXL.out).keep ht (fun h => h) (fun h => h))
  have x0 := blk_cell HX.out.nd 0
  have x1 := blk_cell HX.out.nd 1
  have xf := blk_frozen HX.out.nd 1
  simp only [List.getElem?_toArray, List.getElem?_cons_zero, List.getElem?_cons_succ] at x0 x1
  have HT1 := Lib.hid ht
  clear hs hg hgs ht hb HC
  go_wp2_with fail
  go_ret
  have hFx : F x.b := (HT.out.foot _).2 (.inr ⟨x, HXL.out, .inl rfl⟩)
  have hTT : Turn F w (w1.setCell ⟨x.b, 1, none⟩ (.string u)) := Turn.setCell (p := ⟨x.b, 1, none⟩) (HT1.out.mono fun _ h => h.elim) (.inl hFx) _
  have h0 := HT.out.nope HT1.out
  have hL : hd :: ns = (hd :: A0) ++ x :: B := by rw [HP.out.eq]; rfl
  have hmem := h0.mem
  rw [hL] at hmem
  have e1 : insT (v, u) (tOf ns) = tOf (A0 ++ { x with v := u } :: B) := by
    rw [HP.out.eq, tOf_app, insT_low _ (fun a ha => by obtain ⟨y, hy, rfl⟩ := List.mem_map.1 ha; exact HP.out.lo y hy), tOf_app]
    congr 1
    show (if x.vs < v then _ else if x.vs = v then _ else _) = (x.vs, u) :: tOf B
    rw [if_neg (by rw [HV.out]; omega), if_pos HV.out, HV.out]; rfl
  have hlen : ns.length = (A0 ++ { x with v := u } :: B).length := by rw [HP.out.eq]; simp
  refine ⟨rfl, ⟨hd, A0 ++ { x with v := u } :: B, f, ⟨?_, hmem.set_val u, ?_, h0.hh, ?_, ?_, ?_, ?_⟩, e1.symm⟩, ?_, hTT⟩
  · rw [← hlen]
    refine Turn.blk (S := At x.b) ((Turn.refl _ _).set_at _) h0.hl fun e => HT.out.fl (by rw [show l = x.b from e]; exact ⟨x, HXL.out, .inl rfl⟩)
  · have := h0.links
    rw [hL] at this
    exact links_val this
  · intro y hy
    rcases List.mem_append.1 hy with h | h
    · exact h0.hs y (by rw [HP.out.eq]; simp [h])
    · rcases List.mem_cons.1 h with rfl | h
      · exact h0.hs x (by rw [HP.out.eq]; simp)
      · exact h0.hs y (by rw [HP.out.eq]; simp [h])
  · have := h0.sorted
    rw [HP.out.eq] at this
    rw [List.pairwise_append] at this ⊢
    refine ⟨this.1, ?_, fun a ha b hb => ?_⟩
    · have h2 := List.pairwise_cons.1 this.2.1
      exact List.pairwise_cons.2 ⟨h2.1, h2.2⟩
    · rcases List.mem_cons.1 hb with rfl | hb
      · exact this.2.2 a ha x List.mem_cons_self
      · exact this.2.2 a ha b (List.mem_cons_of_mem _ hb)
  · intro k
    rw [h0.foot k, hL]
    unfold Foot
    constructor
    · rintro (h | ⟨y, hy, h⟩)
      · exact .inl h
      · rcases List.mem_append.1 hy with h1 | h1
        · exact .inr ⟨y, by rcases List.mem_cons.1 h1 with h2 | h2 <;> simp [h2], h⟩
        · rcases List.mem_cons.1 h1 with rfl | h1
          · exact .inr ⟨{ y with v := u }, by simp, h⟩
          · exact .inr ⟨y, by simp [h1], h⟩
    · rintro (h | ⟨y, hy, h⟩)
      · exact .inl h
      · rcases List.mem_cons.1 hy with h1 | h1
        · exact .inr ⟨y, by simp [h1], h⟩
        · rcases List.mem_append.1 h1 with h1 | h1
          · exact .inr ⟨y, by simp [h1], h⟩
          · rcases List.mem_cons.1 h1 with rfl | h1
            · exact .inr ⟨x, by simp, h⟩
            · exact .inr ⟨y, by simp [h1], h⟩
  · rintro ⟨y, hy, h⟩
    refine h0.fl ?_
    rw [hL]
    rcases List.mem_cons.1 hy with h1 | h1
    · exact ⟨y, by simp [h1], h⟩
    · rcases List.mem_append.1 h1 with h1 | h1
      · exact ⟨y, by simp [h1], h⟩
      · rcases List.mem_cons.1 h1 with rfl | h1
        · exact ⟨x, by simp, h⟩
        · exact ⟨y, by simp [h1], h⟩
  · unfold hasT
    rw [List.any_eq_true, HP.out.eq]
    exact ⟨(x.vs, x.v), List.mem_map.2 ⟨x, by simp, rfl⟩, by simpa using HV.out⟩
end Go.Proofs.YtdkojpfhmohaeaaDoor.TS
