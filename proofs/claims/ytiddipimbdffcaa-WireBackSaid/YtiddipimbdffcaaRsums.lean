/- Reader.Sums behind what was put: as many sums as were put. -/
import Derived.Test.YtiddipimbdffcaaRps
set_option linter.unusedSimpArgs false
set_option linter.unusedVariables false
namespace Go.Proofs.Ytiddipimbdffcaa
open Go.RowKit Go.Lib PWireStays Go.Proofs.YtiddipimbdffcaaW.PrintWords Go.Proofs.YtiddipimbdffcaaW.PrintLast Go.Proofs.YtiddipimbdffcaaW.PrintMore
theorem Try.info33w : (Try.prog.info? 33).map (fun i => (i.zero, i.size, i.bytes)) = some (some (.agg Z32), 32, 32) := by kernel_rfl
theorem wpList_build33 {ops : Array Oper} {rest : List Oper} {o : Oper} {a : Act} {w : World} {Q : Exit → Act → World → Prop} (hgd : o.guard = none) (len : Nat) (parts : Array (Nat × Operand)) (ho : o.op = .buildSlice 57 len parts) (vs : List Value)
    (hp : (parts.map fun (i, x) => (i, a.eval x)).toList = (vs.zipIdx 0).map fun x => (x.2, x.1)) (hl : vs.length = len) (h0 : 0 < len) (hs : len ≤ 1000) (h1 : ∀ v ∈ vs, v.cells.size = 32)
    (h : wpList Try.prog ops Q rest (a.put o.dst (.slice (some ⟨w.heap.size, 0, none⟩) len len)) (w.alloc (.cells (vs.flatMap fun v => v.cells.toList).toArray 33))) : wpList Try.prog ops Q (o :: rest) a w :=
  wpList_plain hgd fun _ hK => wp_build33 len parts ho vs hp hl h0 hs h1 (hK _ _ h)
theorem sum32_bstr (cs : List Nat) (hc : cs.length = 32) (hlt : ∀ x ∈ cs, x < 256) : sum32 (bstr cs) = cs := by
  have hz : (bstr cs).size = 32 := by rw [← nb_length, nb_bstr cs hlt, hc]
  rw [sum32, nb_bstr cs hlt, hz, List.take_of_length_le (by omega)]
  simp
/-- Between two rounds of Sums. -/
structure SR (w0 w : World) (g : Nat) (v : Value) (j : Nat) (X : List Value) (r : ByteArray) (W : World) : Prop where
  rd : IsS63 w0 W g r 0
  bl : Below w0.heap.size w0 W
  row : W.ownsRow w.heap.size 33 32 v j X
  sz : w.heap.size ≤ W.heap.size
  kp : ∀ i, i < w.heap.size → i ≠ g → W.heap[i]? = w.heap[i]?
theorem SR.call {w0 w : World} {g : Nat} {v : Value} {j : Nat} {X : List Value} {r r' : ByteArray} {W W' : World} (h : SR w0 w g v j X r W) (hi : IsS63 w0 W' g r' 0) (hb : Below w0.heap.size w0 W') (hk : KeepBut W W' g none) : SR w0 w g v j X r' W' := by
  refine ⟨hi, hb, ?_, Nat.le_trans h.sz hk.1, fun i h1 h2 => (hk.2 i (Nat.lt_of_lt_of_le h1 h.sz) h2 (by simp)).trans (h.kp i h1 h2)⟩
  obtain ⟨h1, h2⟩ := h.row
  refine ⟨h1, ?_⟩
  rcases h2 with h2 | ⟨q, cap, cur, rfl, hq, hh, hr⟩
  · exact .inl h2
  · refine .inr ⟨q, cap, cur, rfl, hq, ?_, hr⟩
    have hne : q ≠ g := by
      rintro rfl
      rw [h.rd.1] at hh
      simp at hh
    exact (hk.2 q (blk_lt hh) hne (by simp)).trans hh
theorem SR.alloc {w0 w : World} {g : Nat} {v : Value} {j : Nat} {X : List Value} {r : ByteArray} {W : World} (h : SR w0 w g v j X r W) (o : Obj) : SR w0 w g v j X r (W.alloc o) :=
  ⟨h.rd.alloc o, ((Turn.ofBelow h.bl Nope).alloc o).nopeBelow, own_nope h.row ((Turn.refl _ _).alloc o), Nat.le_trans h.sz (by simp), fun i h1 h2 => (((Turn.refl Nope W).alloc o).block i (Nat.lt_of_lt_of_le h1 h.sz) id).trans (h.kp i h1 h2)⟩
theorem SR.grown {w0 w : World} {g : Nat} {v v' : Value} {j j' : Nat} {X X' : List Value} {r : ByteArray} {W W' : World} (h : SR w0 w g v j X r W) (hg : W.grownBy W' v.ownBlock) (ho : W'.ownsRow w.heap.size 33 32 v' j' X') (hbs : w0.heap.size ≤ w.heap.size) : SR w0 w g v' j' X' r W' := by
  have hne : some g ≠ v.ownBlock := fun e => own_ne h.row h.rd.1 (by decide) g e.symm rfl
  refine ⟨h.rd.grown hg hne, ?_, ho, Nat.le_trans h.sz hg.size, fun i h1 h2 => (hg.block i (Nat.lt_of_lt_of_le h1 h.sz) (fun e => by have := own_base h.row i e.symm; omega)).trans (h.kp i h1 h2)⟩
  exact ((Turn.ofBelow h.bl Nope).grown hg (fun k hk => .inr (Nat.le_trans hbs (own_base h.row k hk)))).nopeBelow
set_option maxRecDepth 8000 in
set_option maxHeartbeats 4000000 in
theorem rsums_ok (l : List (List Nat)) (hl : ∀ cs ∈ l, cs.length = 32) (hlt : ∀ cs ∈ l, ∀ x ∈ cs, x < 256) (h5 : l.length ≤ 5) (s : ByteArray) (q : List Nat) (hs : nb s = num l.length ++ (l.flatten ++ q)) (hz : s.size ≤ 600) (g : Nat) (w0 w : World) (hI : IsS63 w0 w g s 0) (hB : Below w0.heap.size w0 w) :
    Calls Try.prog 25 #[.pointer (some ⟨g, 0, none⟩), .int .i64 5] w fun e w' => ∃ A c r, e = .returned (.slice A l.length c) ∧ nb r = q ∧ IsS63 w0 w' g r 0 ∧ Below w0.heap.size w0 w' ∧ w.heap.size ≤ w'.heap.size ∧ ∀ i, i < w.heap.size → i ≠ g → w'.heap[i]? = w.heap[i]? := by
  obtain ⟨r0, hu, hr0⟩ := uptoS l.length 5 (by omega) (by decide) s _ hs hz
  have HU := Lib.hid hu
  have HR0 := Lib.hid hr0
  have HI := Lib.hid hI
  have HB := Lib.hid hB
  have HL := Lib.hid hl
  have HLT := Lib.hid hlt
  have HBS := Lib.hid hB.size
  clear hu hr0 hI hB hl hlt hs
  go_enter Try.func25, Try.ntmps25
  go_wp2_with (first | (go_at_call 32; refine (wire_Reader_Upto.calls 2000 _ _ _ _ _ _ _ w0 _ HI.out HB.out HU.out).mono ?_; rintro e1 w32 ⟨rfl, hi, hb, hk⟩; have HSR : Hid (SR w0 w g (.slice none 0 0) 0 [] r0 w32) := ⟨hi, hb, ⟨rfl, .inl ⟨rfl, rfl⟩⟩, hk.1, fun i h1 h2 => hk.2 i h1 h2 (by simp)⟩; clear hi hb hk))
  go_loopg [5, 6] l.length (fun gk v5 v6 wr => ∃ (j : Nat) (X : List Value) (r : ByteArray), v6 = .int .i64 (gk : Int) ∧ Hid (gk + j = l.length ∧ nb r = (l.drop j).flatten ++ q ∧ X.length = j * 32) ∧ SR w0 w g v5 j X r wr)
  case atStart => exact ⟨0, [], r0, rfl, ⟨rfl, by simpa using HR0.out, rfl⟩, HSR.out⟩
  case round =>
    obtain ⟨j, X, r, rfl, hj, hsr⟩ := hrel
    have HS := Lib.hid hsr
    clear hsr
    rename World => wl
    obtain ⟨c0, f0, c1, f1⟩ := cells63 HS.out.rd
    by_cases hg : gk = 0
    · subst hg
      obtain ⟨A, c, hv, -⟩ := own_slice HS.out.row
      have hjl : j = l.length := by have := hj.out.1; omega
      have HQ : Hid (nb r = q) := by
        have h2 := hj.out.2.1
        rw [hjl, List.drop_length] at h2
        show nb r = q
        simpa using h2
      subst hv hjl
      go_wp2_with fail
      go_ret
      exact ⟨A, c, r, rfl, HQ.out, HS.out.rd, HS.out.bl, HS.out.sz, HS.out.kp⟩
    · have b1 : decide ((0 : Int) < (gk : Int)) = true := by simp; omega
      have b1n : decide (0 < gk) = true := by simp; omega
      have hjl : j < l.length := by have := hj.out.1; omega
      obtain ⟨cs, hcs⟩ : ∃ cs, l[j]? = some cs := ⟨_, List.getElem?_eq_getElem hjl⟩
      have hmem := List.mem_of_getElem? hcs
      have hc := HL.out cs hmem
      have hclt := HLT.out cs hmem
      have HDR : Hid (nb r = cs ++ ((l.drop (j + 1)).flatten ++ q)) := by
        have h2 := hj.out.2.1
        rw [List.drop_eq_getElem_cons hjl, show l[j] = cs from (List.getElem?_eq_some_iff.1 hcs).2, List.flatten_cons, List.append_assoc] at h2
        exact h2
      obtain ⟨r', ht, hr'⟩ := takeS cs _ r HDR.out
      rw [hc] at ht
      have HT := Lib.hid ht
      have HR' := Lib.hid hr'
      obtain ⟨V, hV⟩ : ∃ V, V = (u8s cs).toArray := ⟨_, rfl⟩
      have hvs : V.size = 32 := by rw [hV]; simp [u8s_length, hc]
      have HVL := Lib.hid (show V.toList.length = 32 by rw [Array.length_toList, hvs])
      have H1 := Lib.hid (show ∀ v ∈ V.toList, v.oneCell' = true by rw [hV]; intro u hu; simp [u8s] at hu; obtain ⟨x, _, rfl⟩ := hu; rfl)
      have HE : Hid (arrV (sum32 (bstr cs)) = .agg V) := by show _ = _; rw [sum32_bstr cs hc hclt, hV]; rfl
      have HFM : Hid ((List.flatMap (fun v => v.cells.toList) [Value.agg V]).toArray = V) := by show _ = _; simp [Value.cells]
      obtain ⟨i33, hi33, hz33, hs33, hb33⟩ := info_parts Try.info33w
      have I33 := Lib.hid (And.intro hi33 (And.intro hz33 (And.intro hs33 hb33)))
      clear hi33 hz33 hs33 hb33 ht hr' hV hc hclt hcs hmem
      have hg5 : gk ≤ 5 := by have := hj.out.1; omega
      have hwg : wrap64 ((gk : Int) - 1) = (gk : Int) - 1 := IntWalk.wrap64_in _ ⟨by omega, by omega⟩
      have hj5 : j ≤ 5 := by omega
      go_wp2_with (first
        | (go_at_call 28; refine (rsum_any r (bstr cs) r' 0 0 HT.out g w0 _ HS.out.rd HS.out.bl).mono ?_; rintro e1 w28 ⟨rfl, hi, hb, hk⟩; rw [HE.out]; have HS2 := Lib.hid (HS.out.call hi hb hk); clear hi hb hk)
        | (refine wpList_build33 rfl 1 _ rfl [.agg V] (by simp only [List.map_toArray, List.map_cons, List.map_nil]; rfl) rfl (by decide) (by decide) (by intro v hv; simp at hv; subst hv; exact hvs) ?_; rw [HFM.out]; have HS3 := Lib.hid (HS2.out.alloc (.cells V 33)))
        | (at_builtin; refine wpList_append_lies _ rfl (.tmp 21) (.tmp 24) 57 rfl w.heap.size 33 i33 (.agg Z32) 32 32 Try.underlying57 I33.out.1 I33.out.2.1 I33.out.2.2.1 I33.out.2.2.2 Z32_size (by omega) u5 j X rfl HS3.out.row ⟨w28.heap.size, 0, none⟩ 1 1 V.toList rfl (by rw [HVL.out]) (news_new w28 V 33) H1.out (by omega) (by unfold maxLen; omega) (by omega) HS3.out.sz (w28.heap.size + 1) (by simp) ?_; intro g1 cap1 w6 hown hgrow hat hlt; have HS4 := Lib.hid (HS3.out.grown hgrow hown HBS.out); clear hown hgrow hat hlt))
      go_roundg (gk - 1)
      case measure => omega
      case rel =>
        refine ⟨j + 1, X ++ V.toList, r', by go_num, ⟨by have := hj.out.1; omega, HR'.out, by rw [List.length_append, hj.out.2.2, HVL.out]; omega⟩, HS4.out⟩
end Go.Proofs.Ytiddipimbdffcaa
