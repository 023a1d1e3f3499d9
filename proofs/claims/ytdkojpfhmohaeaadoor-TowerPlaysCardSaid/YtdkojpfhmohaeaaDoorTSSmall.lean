/- New, Len, Floor of a tower: the walks. -/
import Derived.Test.YtdkojpfhmohaeaaDoorTSBefore
set_option linter.unusedVariables false
namespace Go.Proofs.YtdkojpfhmohaeaaDoor.TS
open Go.RowKit Go.Proofs.TowerPlain
variable {w w' w0 : World} {F G : Nat → Prop} {L : List N} {f : Nat → Nat → Option Nat} {x y hd : N} {ns : List N} {l : Nat}
theorem TwAt.lt (h : TwAt w F l hd ns f) : ∀ k, F k → k < w.heap.size := by
  intro k hk
  rcases (h.foot k).1 hk with rfl | ⟨x, hx, rfl | rfl⟩
  · exact blk_lt h.hl
  · exact (h.mem.at_ x hx).lt.1
  · exact (h.mem.at_ x hx).lt.2
theorem TwAt.keep (h : TwAt w F l hd ns f) (ht : Turn G w w') (hg : ∀ k, F k → ¬ G k) : TwAt w' F l hd ns f :=
  ⟨ht.blk h.hl (hg _ ((h.foot _).2 (.inl rfl))), h.mem.keep ht (fun k hk => hg _ ((h.foot _).2 (.inr hk))), h.links, h.hh, h.hs, h.sorted, h.foot, h.fl⟩
theorem TwAt.nope (h : TwAt w F l hd ns f) (ht : Turn Nope w w') : TwAt w' F l hd ns f := h.keep ht fun _ _ h => h
/-- What is kept, by versions. -/
def tOf (ns : List N) : List (Int × ByteArray) := ns.map fun x => (x.vs, x.v)
def Tw (w : World) (F : Nat → Prop) (l : Nat) (t : List (Int × ByteArray)) : Prop := ∃ hd ns f, TwAt w F l hd ns f ∧ tOf ns = t
theorem Tw.keep {t : List (Int × ByteArray)} (h : Tw w F l t) (ht : Turn G w w') (hg : ∀ k, F k → ¬ G k) : Tw w' F l t := by obtain ⟨hd, ns, f, h, e⟩ := h; exact ⟨hd, ns, f, h.keep ht hg, e⟩
theorem Tw.nope {t : List (Int × ByteArray)} (h : Tw w F l t) (ht : Turn Nope w w') : Tw w' F l t := h.keep ht fun _ _ h => h
theorem Tw.lt {t : List (Int × ByteArray)} (h : Tw w F l t) : ∀ k, F k → k < w.heap.size := by obtain ⟨hd, ns, f, h, e⟩ := h; exact h.lt
theorem outA_row (b : Nat) : outA (fun _ => 0) 10 = rowOf (fun _ _ => none) b 10 := by rfl
set_option maxHeartbeats 4000000 in
theorem tnew (w : World) : Calls Tryd.prog 21 #[] w fun e w' => ∃ l F, e = .returned (.pointer (some ⟨l, 0, none⟩)) ∧ Tw w' F l [] ∧ Turn Nope w w' ∧ ∀ k, F k → w.heap.size ≤ k := by
  have hmk := mk10
  go_enter Tryd.func21, Tryd.ntmps21
  go_wp2_with fail
  go_ret
  rw [outA_row (w.heap.size + 1)]
  refine ⟨_, fun k => k = w.heap.size + 1 + 1 ∨ Foot [(⟨w.heap.size + 1, w.heap.size, 0, (⟨#[]⟩ : ByteArray), 10⟩ : N)] k, rfl, ⟨⟨w.heap.size + 1, w.heap.size, 0, (⟨#[]⟩ : ByteArray), 10⟩, [], fun _ _ => none, ⟨?_, ⟨?_, by simp [Bs], by simp [Rs]⟩, ?_, rfl, fun _ h => (by cases h), List.Pairwise.nil, fun k => Iff.rfl, ?_⟩, rfl⟩, (((Turn.refl _ _).alloc _).alloc _).alloc _, ?_⟩
  · have := blk_new ((w.alloc (.cells (rowOf (fun _ _ => none) (w.heap.size + 1) 10) 68)).alloc (.cells #[.int .i64 0, .string (⟨#[]⟩ : ByteArray), .slice (some ⟨w.heap.size, 0, none⟩) 10 10] 71)) (.cells #[.pointer (some ⟨w.heap.size + 1, 0, none⟩), .int .i64 0] 73)
    simpa using this
  · intro x hx
    obtain rfl := List.mem_singleton.1 hx
    refine ⟨?_, ?_⟩
    · have := blk_alloc (blk_new (w.alloc (.cells (rowOf (fun _ _ => none) (w.heap.size + 1) 10) 68)) (.cells #[.int .i64 0, .string (⟨#[]⟩ : ByteArray), .slice (some ⟨w.heap.size, 0, none⟩) 10 10] 71)) (.cells #[.pointer (some ⟨w.heap.size + 1, 0, none⟩), .int .i64 0] 73)
      simpa using this
    · exact blk_alloc (blk_alloc (blk_new w (.cells (rowOf (fun _ _ => none) (w.heap.size + 1) 10) 68)) _) _
  · intro pre x post he h hh
    cases pre with
    | nil =>
      injection he with _ e2
      subst e2; rfl
    | cons c p => simp at he
  · rintro ⟨x, hx, h | h⟩
    · obtain rfl := List.mem_singleton.1 hx
      simp at h
    · obtain rfl := List.mem_singleton.1 hx
      simp at h; omega
  · rintro k (rfl | ⟨x, hx, h | h⟩)
    · omega
    · obtain rfl := List.mem_singleton.1 hx
      rw [h]; simp
    · obtain rfl := List.mem_singleton.1 hx
      rw [h]; simp
set_option maxHeartbeats 4000000 in
theorem tlen {t : List (Int × ByteArray)} (h : Tw w F l t) : Calls Tryd.prog 29 #[.pointer (some ⟨l, 0, none⟩)] w fun e w' => e = .returned (.int .i64 (t.length : Int)) ∧ w = w' := by
  obtain ⟨hd, ns, f, h, rfl⟩ := h
  have c1 := blk_cell h.hl 1
  simp only [List.getElem?_toArray, List.getElem?_cons_zero, List.getElem?_cons_succ] at c1
  have e : (tOf ns).length = ns.length := List.length_map ..
  rw [e]
  clear h e
  go_enter Tryd.func29, Tryd.ntmps29
  go_wp2_with fail
  go_ret
  exact ⟨rfl, rfl⟩
end Go.Proofs.YtdkojpfhmohaeaaDoor.TS
