/- Touches, walked; the plain law of what is apart. -/
import Derived.Test.YtlalbmgopbcplaaSpp
set_option maxRecDepth 16000
set_option linter.unusedVariables false
set_option linter.unusedSimpArgs false
namespace Go.Proofs.Ytlalbmgopbcplaa
open Go.RowKit Go.Maps
variable {C : Nm → Int} {K : List Nm} {w0 w w' : World} {s mb n : Nat} {D : Dm} {o p q : Op4}
/-- The accounts among the first i of two. -/
def tch (x y : Nm) (i : Nat) : List Nm := ([x, y].take i).filter (fun z => !(z == []))
theorem tch_step {x y z : Nm} {i : Nat} (h : [x, y][i]? = some z) : tch x y (i + 1) = tch x y i ++ (if z = [] then [] else [z]) := by
  unfold tch
  rw [List.take_add_one, h, List.filter_append]
  by_cases hz : z = []
  · subst hz; rfl
  · rw [if_neg hz]
    have : (z == []) = false := by simpa using hz
    show _ ++ List.filter _ [z] = _
    rw [List.filter_cons, this]; rfl
theorem tch_mem (x y z : Nm) : z ∈ tch x y 2 ↔ (z = x ∨ z = y) ∧ z ≠ [] := by
  unfold tch
  simp
theorem tch_len (x y : Nm) (i : Nat) : (tch x y i).length ≤ 2 := by
  unfold tch
  refine Nat.le_trans (List.length_filter_le _ _) ?_
  rw [List.length_take]; simp; omega
structure TchW (w wr : World) (gb : Nat) (X Y : ByteArray) (i : Nat) (v : Value) : Prop where
  blk : wr.heap[gb]? = some (.cells #[.string X, .string Y] 9 (0, 0))
  row : wr.ownsRow w.heap.size 9 1 v (tch (nmOf X) (nmOf Y) i).length (encs (tch (nmOf X) (nmOf Y) i))
  tn : Turn Nope w wr
  far : ∀ k, v.ownBlock = some k → gb < k
theorem TchW.nope {wr wr' : World} {gb : Nat} {X Y : ByteArray} {i : Nat} {v : Value} (h : TchW w wr gb X Y i v) (ht : Turn Nope wr wr') : TchW w wr' gb X Y i v :=
  ⟨ht.blk h.blk fun h => h, own_nope h.row ht, h.tn.trans ht, h.far⟩
set_option maxHeartbeats 8000000 in
theorem touches_any (k N : Int) (X Y : ByteArray) (w : World) :
    Calls Try.prog 13 #[.agg #[.int .i64 k, .string X, .string Y, .int .i64 N]] w fun e w' => ∃ v, e = .returned v ∧ w'.ownsRow w.heap.size 9 1 v (tch (nmOf X) (nmOf Y) 2).length (encs (tch (nmOf X) (nmOf Y) 2)) ∧ Turn Nope w w' := by
  obtain ⟨i9, hi9, hz9, hs9, hb9⟩ := info_parts Try.info9
  have I9 := Lib.hid (And.intro hi9 (And.intro hz9 (And.intro hs9 hb9)))
  clear hi9 hz9 hs9 hb9
  go_enter Try.func13, Try.ntmps13
  go_upto_block 0 with fail
  have H0 : Hid (TchW w ((w.alloc (.cells #[.int .i64 k, .string X, .string Y, .int .i64 N] 29)).alloc (.cells #[.string X, .string Y] 9)) (w.heap.size + 1) X Y 0 (.slice none 0 0)) := by
    refine ⟨?_, ⟨?_, .inl ⟨rfl, ?_⟩⟩, ((Turn.refl _ _).alloc _).alloc _, ?_⟩
    · have := blk_new (w.alloc (.cells #[.int .i64 k, .string X, .string Y, .int .i64 N] 29)) (.cells #[.string X, .string Y] 9)
      simpa using this
    all_goals simp [tch, encs, Value.ownBlock]
  obtain ⟨gb, hgb⟩ : ∃ gb, w.heap.size + 1 = gb := ⟨_, rfl⟩
  have HGB : Hid (w.heap.size + 1 = gb) := hgb
  rw [hgb] at H0
  go_wp2_with fail
  simp only [hgb]
  clear hgb
  go_loopg [3, 12] 2 (fun kk v3 v12 wr => ∃ (i : Nat), v12 = .int .i64 (i : Int) ∧ Hid (kk + i = 2) ∧ Hid (TchW w wr gb X Y i v3))
  case atStart => exact ⟨0, rfl, rfl, H0.out⟩
  case round =>
    obtain ⟨i, rfl, hk, hW⟩ := hrel
    clear H0
    by_cases hlt : i < 2
    · have b1 : decide ((i : Int) < 2) = true := by simp; omega
      have b1n : decide (i < 2) = true := by simp; omega
      have i0 : (0 : Int) ≤ (i : Int) := by omega
      have i1 : (i : Int) < 2 := by omega
      have hw : wrap64 ((i : Int) + 1) = (i : Int) + 1 := IntWalk.wrap64_in _ ⟨by omega, by omega⟩
      have HWR := Lib.hid hw
      obtain ⟨Z, hZ, hZn⟩ : ∃ Z : ByteArray, (#[Value.string X, .string Y] : Array Value)[i]? = some (.string Z) ∧ [nmOf X, nmOf Y][i]? = some (nmOf Z) := by
        rcases (by omega : i = 0 ∨ i = 1) with rfl | rfl
        · exact ⟨X, rfl, rfl⟩
        · exact ⟨Y, rfl, rfl⟩
      have c0 := blk_cell hW.out.blk i
      rw [hZ] at c0
      have HST := Lib.hid (tch_step hZn)
      have HLN := Lib.hid (tch_len (nmOf X) (nmOf Y) i)
      obtain ⟨L, hL⟩ : ∃ L, tch (nmOf X) (nmOf Y) i = L := ⟨_, rfl⟩
      have HL := Lib.hid hL
      rw [hL] at HST HLN
      have HI := Lib.hid hlt
      clear hZ hZn hlt hw hL
      by_cases hz : Z.size = 0
      · have e0 : Z = ⟨#[]⟩ := nm_empty (nm_nil.2 hz)
        subst e0
        have z0 : ((⟨#[]⟩ : ByteArray).toList != (⟨#[]⟩ : ByteArray).toList) = false := by simp
        clear hz
        go_wp2_with fail
        have hw := HWR.out
        go_wp2_with fail
        go_roundg (2 - (i + 1))
        case measure => have := hk.out; have := HI.out; omega
        case rel =>
          refine ⟨i + 1, by go_num, by have := hk.out; have := HI.out; show _ = _; omega, ?_⟩
          have e : tch (nmOf X) (nmOf Y) (i + 1) = tch (nmOf X) (nmOf Y) i := by rw [HL.out, HST.out]; simp [nmOf]
          have h := hW.out
          exact ⟨h.blk, by rw [e]; exact h.row, h.tn, h.far⟩
      · have z0 : (nmOf Z != []) = true := by rw [bne_iff_ne]; exact fun e => hz (nm_nil.1 e)
        have z1 : (Z.toList != []) = true := by rw [tl]; exact z0
        have HZ : Hid (nmOf Z ≠ []) := fun e => hz (nm_nil.1 e)
        obtain ⟨ab, cb, eb, _⟩ := own_slice hW.out.row
        subst eb
        rw [HL.out]
        have HR : Hid (wr.ownsRow w.heap.size 9 1 (.slice ab L.length cb) L.length (encs L)) := by have := hW.out.row; rw [HL.out] at this; exact this
        have HFAR : Hid (∀ k, (Value.slice ab L.length cb).ownBlock = some k → gb < k) := by have h := hW.out.far; rw [HL.out] at h; exact h
        have z2 : Z.toList.isEmpty = false := by rw [← Bool.not_eq_true, List.isEmpty_iff]; rw [tl]; exact HZ.out
        have HTW := Lib.hid hW.out.tn
        have HBK := Lib.hid hW.out.blk
        have HGB2 := Lib.hid (blk_lt hW.out.blk)
        have hl2 := HLN.out
        have hsz := HTW.out.size
        clear hz hW
        go_wp2_with (first | (at_builtin; refine wpList_append_lies _ rfl (.tmp 18) (.tmp 20) 26 rfl w.heap.size 9 i9 _ 1 16 Try.underlying26 I9.out.1 I9.out.2.1 I9.out.2.2.1 I9.out.2.2.2 rfl (by omega) (.slice ab L.length cb) L.length (encs L) rfl (HR.out.alloc _) ⟨wr.heap.size, 0, none⟩ 1 1 [.string Z] rfl rfl (news_new wr _ 9) (by intro u hu; simp at hu; subst hu; rfl) (by omega) (by unfold maxLen; omega) (by omega) (by simp; omega) (wr.heap.size + 1) (by simp) ?_; intro g2 cap2 w9 hown2 hgr2 hat2 hlt2; have HO2 := Lib.hid hown2; have HG2 := Lib.hid (And.intro hgr2 hat2); clear hown2 hgr2 hat2 hlt2 hl2 hsz))
        have hw := HWR.out
        go_wp2_with fail
        go_roundg (2 - (i + 1))
        case measure => have := hk.out; have := HI.out; omega
        case rel =>
          refine ⟨i + 1, by go_num, by have := hk.out; have := HI.out; show _ = _; omega, ?_⟩
          have e : tch (nmOf X) (nmOf Y) (i + 1) = L ++ [nmOf Z] := by rw [HST.out, if_neg HZ.out]
          have hne : (Value.slice ab L.length cb).ownBlock ≠ some gb := fun e => by have := HFAR.out gb e; omega
          refine ⟨?_, ?_, (HTW.out.alloc (.cells #[.string Z] 9)).growR HG2.out.1 (HR.out.alloc _) (Nat.le_refl _), fun k hk => ?_⟩
          · exact blk_grown (blk_alloc HBK.out _) HG2.out.1 hne
          · rw [e, List.length_append]
            have := HO2.out
            simpa [encs, encStr, nmOf] using this
          · rcases HG2.out.2 with h | h
            · have := HFAR.out g2 h
              simp [Value.ownBlock] at hk
              omega
            · have := HGB2.out
              simp [Value.ownBlock] at hk
              omega
    · have b1 : decide ((i : Int) < 2) = false := by simp; omega
      have b1n : decide (i < 2) = false := by simp; omega
      obtain rfl : i = 2 := by have := hk.out; omega
      clear hlt
      go_wp2_with fail
      go_ret
      exact ⟨_, rfl, hW.out.row, hW.out.tn⟩
/-- Two ops that touch no account in common. -/
def Far (p q : Op4) : Prop := ∀ x ∈ tch p.nm p.to 2, ∀ y ∈ tch q.nm q.to 2, x ≠ y
theorem Far.symm (h : Far p q) : Far q p := fun x hx y hy e => h y hy x hx e.symm
theorem Far.nm (h : Far p q) {x : Nm} (hx : x ≠ []) (hp : x = p.nm ∨ x = p.to) : x ≠ q.nm ∧ x ≠ q.to := by
  have h1 := (tch_mem p.nm p.to x).2 ⟨hp, hx⟩
  refine ⟨fun e => ?_, fun e => ?_⟩
  · exact h x h1 x ((tch_mem q.nm q.to x).2 ⟨.inl e, hx⟩) rfl
  · exact h x h1 x ((tch_mem q.nm q.to x).2 ⟨.inr e, hx⟩) rfl
/-- What an op adds to an account. -/
def dl (o : Op4) (y : Nm) : Int := if o.k = 3 then (if y = o.to then o.N else if y = o.nm then -o.N else 0) else 0
theorem newC_dl (C : Nm → Int) (hc : chk o = 0) (y : Nm) : newC C o y = C y + dl o y := by
  unfold newC dl
  by_cases hk : o.k = 3
  · rw [if_pos hk, if_pos hk]
    show (if y = o.to then _ else if y = o.nm then _ else _) = _
    by_cases h1 : y = o.to
    · rw [if_pos h1, if_pos h1, h1]
    · rw [if_neg h1, if_neg h1]
      by_cases h2 : y = o.nm
      · rw [if_pos h2, if_pos h2, h2]; omega
      · rw [if_neg h2, if_neg h2]; omega
  · rw [if_neg hk, if_neg hk]; omega
theorem newC_comm (hp : chk p = 0) (hq : chk q = 0) : newC (newC C p) q = newC (newC C q) p := by
  funext y
  rw [newC_dl _ hq, newC_dl _ hp, newC_dl _ hp, newC_dl _ hq]
  omega
theorem newC_far (hf : Far p q) {y : Nm} (hy : y ≠ []) (hq : y = q.nm ∨ y = q.to) (hp : chk p = 0) : newC C p y = C y := by
  have h := hf.symm.nm hy hq
  rw [newC_dl _ hp]
  unfold dl
  rw [if_neg h.2, if_neg h.1]
  split <;> omega
theorem newK_mem (hf : Far p q) (hp : chk p = 0) {y : Nm} (hq : y = q.nm ∨ y = q.to) : y ∈ newK K p ↔ y ∈ K ∨ (p.k = 1 ∧ y = p.nm) := by
  obtain ⟨c1, c2, c3, c4, c5, c6⟩ := chk_ok hp
  unfold newK
  by_cases h1 : p.k = 1
  · rw [if_pos h1, List.mem_cons]
    constructor
    · rintro (e | e); exact .inr ⟨h1, e⟩; exact .inl e
    · rintro (e | e); exact .inr e; exact .inl e.2
  · rw [if_neg h1]
    by_cases h2 : p.k = 2
    · rw [if_pos h2]
      have hne : y ≠ p.nm := by
        by_cases hy : y = []
        · intro e; exact (c6 (by omega)).1 (by rw [← e, hy])
        · exact (hf.symm.nm hy hq).1
      rw [List.mem_erase_of_ne hne]
      constructor
      · exact fun e => .inl e
      · rintro (e | e); exact e; exact absurd e.1 h1
    · rw [if_neg h2]
      constructor
      · exact fun e => .inl e
      · rintro (e | e); exact e; exact absurd e.1 h1
theorem apart_ok (hB : Book C K) (hp : doE C K p = 0) (hq : doE C K q = 0) (hf : Far p q) (hl : K.length ≤ 15) : doE (newC C p) (newK K p) q = 0 := by
  obtain ⟨pc, p1, p2, p3⟩ := doE_ok hp
  obtain ⟨qc, q1, q2, q3⟩ := doE_ok hq
  obtain ⟨c1, c2, c3, c4, c5, c6⟩ := chk_ok qc
  obtain ⟨d1, d2, d3, d4, d5, d6⟩ := chk_ok pc
  have hlen : (newK K p).length ≤ 16 := by
    unfold newK
    split
    · rw [List.length_cons]; omega
    · split
      · exact Nat.le_trans List.length_erase_le (by omega)
      · omega
  unfold doE
  rw [if_neg (by rw [qc]; decide)]
  by_cases hk1 : q.k = 1
  · have hn := (c6 (by omega)).1
    rw [if_pos hk1, if_neg, if_neg (by omega)]
    rw [newK_mem hf pc (.inl rfl)]
    rintro (e | e)
    · exact (q1 hk1).1 e
    · exact (hf.symm.nm hn (.inl rfl)).1 e.2
  · rw [if_neg hk1]
    by_cases hk2 : q.k = 2
    · have hn := (c6 (by omega)).1
      rw [if_neg (fun e => e ((newK_mem hf pc (.inl rfl)).2 (.inl (q2 hk2).1))), if_pos hk2, newC_far hf hn (.inl rfl) pc, if_neg (fun e => e (q2 hk2).2)]
    · have hk3 : q.k = 3 := by omega
      obtain ⟨a1, a2, a3, a4⟩ := q3 hk3
      rw [if_neg (fun e => e ((newK_mem hf pc (.inl rfl)).2 (.inl a1))), if_neg hk2, if_neg (fun e => e ((newK_mem hf pc (.inr rfl)).2 (.inl a2)))]
      rw [if_neg, if_neg]
      · rintro ⟨e1, e2⟩
        rw [newC_far hf e1 (.inr rfl) pc] at e2
        have := a4 e1; omega
      · rintro ⟨e1, e2⟩
        rw [newC_far hf e1 (.inl rfl) pc] at e2
        have := a3 e1; omega
theorem newK_comm (hp : chk p = 0) (hq : chk q = 0) (hf : Far p q) : (newK (newK K p) q).Perm (newK (newK K q) p) := by
  obtain ⟨c1, c2, c3, c4, c5, c6⟩ := chk_ok hq
  obtain ⟨d1, d2, d3, d4, d5, d6⟩ := chk_ok hp
  have hne : p.k ≠ 3 → q.k ≠ 3 → p.nm ≠ q.nm := fun h1 h2 => (hf.nm (d6 h1).1 (.inl rfl)).1
  rcases (by omega : p.k = 1 ∨ p.k = 2 ∨ p.k = 3) with h | h | h <;> rcases (by omega : q.k = 1 ∨ q.k = 2 ∨ q.k = 3) with g | g | g
  all_goals simp only [newK, h, g, if_true, show ¬ ((2 : Int) = 1) by decide, show ¬ ((3 : Int) = 1) by decide, show ¬ ((3 : Int) = 2) by decide, if_false]
  · exact List.Perm.swap _ _ _
  · rw [List.erase_cons_tail (by simpa using hne (by omega) (by omega))]
  · exact List.Perm.refl _
  · rw [List.erase_cons_tail (by simpa using (hne (by omega) (by omega)).symm)]
  · rw [List.erase_comm]
  all_goals exact List.Perm.refl _
theorem newK_perm2 {K' : List Nm} (h : K.Perm K') (o : Op4) : (newK K o).Perm (newK K' o) := newK_perm h
theorem doE_perm {K' : List Nm} (h : K.Perm K') (o : Op4) : doE C K o = doE C K' o := by
  unfold doE
  simp only [h.mem_iff, h.length_eq]
end Go.Proofs.Ytlalbmgopbcplaa
