/- The agenda beside the law's own map. -/
import Derived.Test.YtdojdhpfhjhmfaaWho
set_option maxRecDepth 16000
set_option linter.unusedVariables false
set_option linter.unusedSimpArgs false
namespace Go.Proofs.Ytdojdhpfhjhmfaa
open Go.RowKit Go.Maps
variable {w0 w w' : World} {a mb n : Nat} {D : DataW Value} {V : Int → Value} {A : Int → List ByteArray}
def cutP (s : ByteArray) (n : Nat) : ByteArray := if n < s.size then s.extract 0 n else s
theorem cutP_size (s : ByteArray) (n : Nat) : (cutP s n).size ≤ n := by
  unfold cutP
  split
  · rw [ByteArray.size_extract]; omega
  · omega
set_option maxHeartbeats 4000000 in
theorem cut_any (s : ByteArray) (n : Nat) (hn : n ≤ 1000000) (w : World) : Calls Try.prog 22 #[.string s, .int .i64 n] w fun e w' => e = .returned (.string (cutP s n)) ∧ w' = w := by
  go_enter Try.func22, Try.ntmps22
  by_cases h : n < s.size
  · have b1 : decide ((n : Int) < (s.size : Int)) = true := by simp; omega
    have b1n : decide (n < s.size) = true := by simp; omega
    have h0 : (0 : Int) ≤ (n : Int) := by omega
    have h1 : (n : Int) ≤ (s.size : Int) := by omega
    have h2 : n ≤ s.size := by omega
    go_wp2_with fail
    go_ret
    exact ⟨by unfold cutP; rw [if_pos h]; rfl, rfl⟩
  · have b1 : decide ((n : Int) < (s.size : Int)) = false := by simp; omega
    have b1n : decide (n < s.size) = false := by simp; omega
    go_wp2_with fail
    go_ret
    exact ⟨by unfold cutP; rw [if_neg h]; rfl, rfl⟩
set_option maxHeartbeats 4000000 in
theorem ag_add2 (h : Ag w0 w a mb n D V A) (hn : n ≤ 1000000) {x : Int} (hx : (Lit.int .i64 x).wf = true) (ad : Addr) (m c : Nat) (l : List ByteArray) (hm : l.length = m) (hm0 : 0 < m) (hm1 : m ≤ 1000) (hA : (A x).length ≤ 100000)
    (hr : ∀ j s, l[j]? = some s → w.cell? (ad.add j) = some (.string s)) :
    Calls Try.prog 23 #[.pointer (some ⟨a, 0, none⟩), .int .i64 x, .slice (some ad) m c] w fun e w' => e = .returned (.tuple #[]) ∧ (∃ D' v, Ag w0 w' a mb (n + 1) D' (fun y => if y = x then v else V y) (fun y => if y = x then A x ++ l else A y) ∧ ∀ k, v.ownBlock = some k → w.heap.size ≤ k ∧ k < w'.heap.size) ∧ Turn (At mb) w w' := by
  have hl := h.look hx
  have HD := Lib.hid (h.nope (Turn.refl Nope w).drew)
  have HL0 := Lib.hid (HD.out.look hx)
  have HSR := Lib.hid (HD.out.rows x hx)
  have HR := Lib.hid hr
  obtain ⟨i9, hi9, hz9, hs9, hb9⟩ := info_parts Try.info9
  have I9 := Lib.hid (And.intro hi9 (And.intro hz9 (And.intro hs9 hb9)))
  clear hi9 hz9 hs9 hb9 hr h hl
  have hl := HL0.out
  have c0 := HD.out.cell
  obtain ⟨Ad, cp, hv, hv1, hv2, hv3⟩ := HSR.out
  rw [hv] at hl
  have hsr := HSR.out
  rw [hv] at hsr
  have HSV := Lib.hid hsr
  have hkey := keyOf_int_mk Try.underlying3 hx
  clear hv hv1 hv2 hv3 hsr
  go_enter Try.func23, Try.ntmps23
  go_region_law (first
    | (rw [if_pos (by simp [Region.wanted])]; go_simp; refine (clone_any HSV.out (by omega)).mono ?_; rintro e w1 ⟨v1, rfl, hr1, hb1⟩; have HR1 := Lib.hid hr1; have HB1 := Lib.hid hb1; have d1 := (HD.out.nope (Turn.ofBelow hb1 Nope)).cell; clear hr1 hb1 hl c0)
    | (refine step_append_lies _ rfl (.tmp 17) (.tmp 18) 53 rfl w.heap.size 9 i9 _ 1 16 Try.underlying53 I9.out.1 I9.out.2.1 I9.out.2.2.1 I9.out.2.2.2 rfl (by omega) v1 (A x).length (strs (A x)) rfl HR1.out ad m c (strs l) rfl (by unfold strs; rw [List.length_map]; omega) (fun j u hj => news_strs (HR.out) HB1.out hj) (by intro u hu; unfold strs at hu; obtain ⟨s, _, rfl⟩ := List.mem_map.1 hu; rfl) hm0 (by show _ ≤ 9223372036854775807; omega) (by omega) HB1.out.size w1.heap.size rfl ?_; intro g1 cap1 w6 hown hgr hat hlt; have HA6 := Lib.hid (HD.out.nope ((Turn.ofBelow HB1.out Nope).grown hgr (fun k hk => .inr (own_base HR1.out k hk)))); have HO6 := Lib.hid hown; have d6 := HA6.out.cell; clear d1; obtain ⟨w7, hrun7, hown7, hg7⟩ := HA6.out.map.1.update law3 Try.underlying56 (by show n < maxLen; unfold maxLen; omega) hkey (val := .slice (some ⟨g1, 0, none⟩) ((A x).length + m) cap1) rfl; have HO7 := Lib.hid hown7; have HG7 := Lib.hid hg7; have HT7 : Hid (Turn (At mb) w w7) := (((Turn.refl _ _).drew.below HB1.out).grown hgr (fun k hk => .inr (own_base HR1.out k hk))).grown hg7 (fun k hk => .inl (by injection hk with hk; exact hk.symm)); clear hown hgr hat hlt hown7 hg7))
  all_goals
    go_end0
    refine ⟨rfl, ⟨_, _, HA6.out.put hx HO7.out HG7.out (SRow.ofOwn (by rw [List.length_append, hm]) (by unfold strs; rw [List.map_append]; exact HO6.out)), fun k hk => ⟨own_base HO6.out k hk, Nat.lt_of_lt_of_le (World.ownsRow.lt HO6.out k hk).2 HG7.out.size⟩⟩, HT7.out⟩
theorem MapV.turn {S : Nat → Prop} (h : MapV w mb n D V) (ht : Turn S w w') (hS : ¬ S mb) : MapV w' mb n D V := by
  refine ⟨?_, h.2⟩
  obtain ⟨es, clock, hb, F, hs, hD⟩ := h.1
  exact ⟨es, clock, ht.blk hb hS, F, hs, hD⟩
theorem MapV.look (h : MapV w mb n D V) {x : Int} (hx : (Lit.int .i64 x).wf = true) : (Instr.lookup 56 (.map (some mb)) (.int .i64 x) false).run Try.prog w = .ok (V x) w := by
  obtain ⟨v, ps, hrun, hv⟩ := h.1.lookup law3 Try.underlying56 (zero53 w) (zd := .held (.slice none 0 0)) (zp := []) rfl (keyOf_int_mk Try.underlying3 hx)
  rw [h.2 x hx] at hv
  have e : v = V x := by
    unfold rawElem at hv
    injection hv with hv
    injection hv with hv _
    injection hv with hv
  rw [e] at hrun
  exact hrun
theorem MapV.blk (h : MapV w mb n D V) : ∃ es clock, w.heap[mb]? = some (.map es clock) := by
  obtain ⟨es, clock, hb, _⟩ := h.1
  exact ⟨es, clock, hb⟩
/-- A row is no map. -/
theorem row_map {base e size m : Nat} {v : Value} {xs : List Value} {b : Nat} {es : Array MapEntry} {clock : Nat} (h : w.ownsRow base e size v m xs) (hb : w.heap[b]? = some (.map es clock)) : ∀ k, v.ownBlock = some k → k ≠ b := by
  intro k hk e
  subst e
  rcases h.2 with ⟨rfl, _⟩ | ⟨g, cap, cur, rfl, _, hh, _⟩
  · simp [Value.ownBlock] at hk
  · have hk : g = k := by simpa [Value.ownBlock] using hk
    subst hk
    rw [hb] at hh; cases hh
/-- The law's own map: rows of its own. -/
structure Wn (w0 w : World) (mb n : Nat) (D : DataW Value) (V : Int → Value) (A : Int → List ByteArray) (K : List Int) : Prop where
  lo : w0.heap.size ≤ mb
  map : MapV w mb n D V
  rows : ∀ x, (Lit.int .i64 x).wf = true → w.ownsRow w0.heap.size 9 1 (V x) (A x).length (strs (A x))
  sep : ∀ x y, (Lit.int .i64 x).wf = true → (Lit.int .i64 y).wf = true → x ≠ y → ∀ k, (V x).ownBlock = some k → (V y).ownBlock ≠ some k
  nd : K.Nodup
  len : Maps.size D = K.length
  mem : ∀ x, x ∈ K ↔ ((Lit.int .i64 x).wf = true ∧ A x ≠ [])
  has : ∀ x, (Lit.int .i64 x).wf = true → (Maps.has D (.int .i64 x) = true ↔ x ∈ K)
variable {mb2 n2 : Nat} {D2 : DataW Value} {V2 : Int → Value} {K : List Int}
theorem Wn.turn {S : Nat → Prop} (h : Wn w0 w mb2 n2 D2 V2 A K) (ht : Turn S w w') (hm : ¬ S mb2) (hr : ∀ x, (Lit.int .i64 x).wf = true → ∀ k, (V2 x).ownBlock = some k → ¬ S k) : Wn w0 w' mb2 n2 D2 V2 A K :=
  ⟨h.lo, h.map.turn ht hm, fun x hx => own_turn (h.rows x hx) ht (hr x hx), h.sep, h.nd, h.len, h.mem, h.has⟩
theorem Wn.nope (h : Wn w0 w mb2 n2 D2 V2 A K) (ht : Turn Nope w w') : Wn w0 w' mb2 n2 D2 V2 A K := h.turn ht (fun h => h) fun _ _ _ _ h => h
theorem Wn.atMap (h : Wn w0 w mb2 n2 D2 V2 A K) {b : Nat} {es : Array MapEntry} {clock : Nat} (hb : w.heap[b]? = some (.map es clock)) (hne : b ≠ mb2) (ht : Turn (At b) w w') : Wn w0 w' mb2 n2 D2 V2 A K :=
  h.turn ht (fun e => hne (show mb2 = b from e).symm) fun x hx k hk e => row_map (h.rows x hx) hb k hk e
theorem wn_new (w0 w : World) (h : w0.heap.size ≤ w.heap.size) : Wn w0 (w.alloc (.map #[] 0)) w.heap.size 0 (.map []) (fun _ => .slice none 0 0) (fun _ => []) [] :=
  ⟨h, ⟨World.ownsMap_made w _ _ _, fun x _ => rfl⟩, fun x _ => ⟨rfl, .inl ⟨rfl, rfl⟩⟩, fun x y _ _ _ k hk => by simp [Value.ownBlock] at hk, List.nodup_nil, rfl, fun x => by simp, fun x hx => by simp [Maps.has]⟩
/-- A row grew, and the map has it. -/
theorem Wn.put {w6 w7 : World} {x : Int} {s : ByteArray} {g cap : Nat} (h : Wn w0 w mb2 n2 D2 V2 A K) (hx : (Lit.int .i64 x).wf = true)
    (hown : w6.ownsRow w0.heap.size 9 1 (.slice (some ⟨g, 0, none⟩) ((A x).length + 1) cap) ((A x).length + 1) (strs (A x) ++ [.string s])) (hgr : w.grownBy w6 (V2 x).ownBlock) (hat : (V2 x).ownBlock = some g ∨ w.heap.size ≤ g)
    (hm : w7.ownsMap Try.prog 3 rawElem mb2 (n2 + 1) (D2.put (.int .i64 x) (.held (.slice (some ⟨g, 0, none⟩) ((A x).length + 1) cap)))) (hg7 : w6.grownBy w7 (some mb2)) :
    Wn w0 w7 mb2 (n2 + 1) (D2.put (.int .i64 x) (.held (.slice (some ⟨g, 0, none⟩) ((A x).length + 1) cap))) (fun y => if y = x then .slice (some ⟨g, 0, none⟩) ((A x).length + 1) cap else V2 y) (fun y => if y = x then A x ++ [s] else A y) (if x ∈ K then K else x :: K) := by
  obtain ⟨es, clock, hb⟩ := h.map.blk
  have hb6 : w6.heap[mb2]? = some (.map es clock) := blk_grown hb hgr fun e => row_map (h.rows x hx) hb mb2 e rfl
  have hold : ∀ y, (Lit.int .i64 y).wf = true → y ≠ x → w7.ownsRow w0.heap.size 9 1 (V2 y) (A y).length (strs (A y)) := fun y hy hyx => by
    have h6 := own_grown (h.rows y hy) hgr fun k hk => h.sep y x hy hx hyx k hk |> fun h1 h2 => h1 h2
    exact own_grown h6 hg7 fun k hk e => by injection e with e; exact row_map h6 hb6 k hk e.symm
  have hnew : ∀ y, (Lit.int .i64 y).wf = true → y ≠ x → ∀ k, (V2 y).ownBlock = some k → k ≠ g := fun y hy hyx k hk e => by
    subst e
    rcases hat with h1 | h1
    · exact h.sep y x hy hx hyx k hk h1
    · have := (World.ownsRow.lt (h.rows y hy) k hk).2
      omega
  have hhas : (x ∈ K) ↔ Maps.has D2 (.int .i64 x) = true := (h.has x hx).symm
  have hmem : ∀ y, y ∈ (if x ∈ K then K else x :: K) ↔ y ∈ K ∨ y = x := fun y => by
    split
    · rename_i h1
      exact ⟨.inl, fun h2 => by rcases h2 with h2 | rfl; exact h2; exact h1⟩
    · rw [List.mem_cons]
      exact ⟨fun h => h.symm, fun h => h.symm⟩
  refine ⟨h.lo, h.map.put hx hm, fun y hy => ?_, fun y z hy hz hyz k hk => ?_, ?_, ?_, fun y => ?_, fun y hy => ?_⟩
  · by_cases hyx : y = x
    · subst hyx
      simp only [if_true]
      have := own_grown hown hg7 fun k hk e => by injection e with e; exact row_map hown hb6 k hk e.symm
      rw [List.length_append]
      unfold strs at this ⊢
      rw [List.map_append]
      exact this
    · simp only [if_neg hyx]
      exact hold y hy hyx
  · by_cases hyx : y = x
    · have hzx : ¬ z = x := fun e => hyz (by rw [hyx, e])
      simp only [if_pos hyx] at hk
      simp only [if_neg hzx]
      have hk : g = k := by simpa [Value.ownBlock] using hk
      exact fun e => hnew z hz hzx k e hk.symm
    · simp only [if_neg hyx] at hk
      by_cases hzx : z = x
      · simp only [if_pos hzx]
        exact fun e => hnew y hy hyx k hk (by have : g = k := by simpa [Value.ownBlock] using e
                                              exact this.symm)
      · simp only [if_neg hzx]
        exact h.sep y z hy hz hyz k hk
  · split
    · exact h.nd
    · rename_i h1
      exact List.nodup_cons.2 ⟨h1, h.nd⟩
  · rw [size_put (h.map.1.tidy law3)]
    by_cases hk : x ∈ K
    · rw [if_pos (hhas.1 hk), if_pos hk, h.len]
    · rw [if_neg (fun e => hk (hhas.2 e)), if_neg hk, h.len]; rfl
  · rw [hmem]
    by_cases hyx : y = x
    · subst hyx
      simp [hx]
    · rw [h.mem y]
      simp [hyx]
  · rw [hmem]
    by_cases hyx : y = x
    · subst hyx
      rw [has_put_same h.map.1.isMap (show WideAt.IsKeyLit (.int .i64 y) from trivial)]
      simp
    · rw [has_put_other (by simpa using hyx), h.has y hy]
      simp [hyx]
/-- The agenda stays where its blocks do. -/
theorem Ag.away {S : Nat → Prop} (h : Ag w0 w a mb n D V A) (ht : Turn S w w') (h0 : ∀ k, S k → w0.heap.size ≤ k) (ha : ¬ S a) (hm : ¬ S mb) (hr : ∀ x, (Lit.int .i64 x).wf = true → ∀ k, (V x).ownBlock = some k → ¬ S k) : Ag w0 w' a mb n D V A := by
  refine ⟨ht.blk h.ha ha, h.newa, h.newm, h.turn.then ht fun k hk => .inr (h0 k hk), h.map.turn ht hm, fun x hx => ?_⟩
  obtain ⟨A', c, e, h1, h2, h3⟩ := h.rows x hx
  refine ⟨A', c, e, h1, h2, fun hp => ?_⟩
  obtain ⟨g, o, cells, e1, e2, e3⟩ := h3 hp
  exact ⟨g, o, cells, e1, ht.blk e2 (hr x hx g (by rw [e, e1]; rfl)), e3⟩
/-- Both. -/
structure AW (w0 w : World) (a mb mb2 n : Nat) (D D2 : DataW Value) (V V2 : Int → Value) (A : Int → List ByteArray) (K : List Int) : Prop where
  ag : Ag w0 w a mb n D V A
  wn : Wn w0 w mb2 n D2 V2 A K
  ne : mb ≠ mb2
  off : ∀ x, (Lit.int .i64 x).wf = true → ∀ k, (V x).ownBlock = some k → k < w.heap.size ∧ ∀ y, (Lit.int .i64 y).wf = true → (V2 y).ownBlock ≠ some k
  cnt : ∀ x, (A x).length ≤ n
theorem AW.nope (h : AW w0 w a mb mb2 n D D2 V V2 A K) (ht : Turn Nope w w') : AW w0 w' a mb mb2 n D D2 V V2 A K :=
  ⟨h.ag.nope ht, h.wn.nope ht, h.ne, fun x hx k hk => ⟨Nat.lt_of_lt_of_le (h.off x hx k hk).1 ht.size, (h.off x hx k hk).2⟩, h.cnt⟩
/-- Between the two puts: the agenda has one more. -/
structure AX (w0 w : World) (a mb mb2 n : Nat) (D D2 : DataW Value) (V V2 : Int → Value) (A : Int → List ByteArray) (K : List Int) (x : Int) (s : ByteArray) : Prop where
  ag : Ag w0 w a mb (n + 1) D V (fun y => if y = x then A x ++ [s] else A y)
  wn : Wn w0 w mb2 n D2 V2 A K
  ne : mb ≠ mb2
  off : ∀ x, (Lit.int .i64 x).wf = true → ∀ k, (V x).ownBlock = some k → k < w.heap.size ∧ ∀ y, (Lit.int .i64 y).wf = true → (V2 y).ownBlock ≠ some k
  cnt : ∀ x, (A x).length ≤ n
theorem AX.nope {x : Int} {s : ByteArray} (h : AX w0 w a mb mb2 n D D2 V V2 A K x s) (ht : Turn Nope w w') : AX w0 w' a mb mb2 n D D2 V V2 A K x s :=
  ⟨h.ag.nope ht, h.wn.nope ht, h.ne, fun x hx k hk => ⟨Nat.lt_of_lt_of_le (h.off x hx k hk).1 ht.size, (h.off x hx k hk).2⟩, h.cnt⟩
theorem AW.added {x : Int} {s : ByteArray} {D' : DataW Value} {v : Value} (h : AW w0 w a mb mb2 n D D2 V V2 A K) (hx : (Lit.int .i64 x).wf = true) (ha : Ag w0 w' a mb (n + 1) D' (fun y => if y = x then v else V y) (fun y => if y = x then A x ++ [s] else A y)) (hv : ∀ k, v.ownBlock = some k → w.heap.size ≤ k ∧ k < w'.heap.size) (ht : Turn (At mb) w w') :
    AX w0 w' a mb mb2 n D' D2 (fun y => if y = x then v else V y) V2 A K x s := by
  obtain ⟨es, clock, hb⟩ := h.ag.map.blk
  refine ⟨ha, h.wn.atMap hb h.ne ht, h.ne, fun y hy k hk => ?_, h.cnt⟩
  by_cases hyx : y = x
  · simp only [if_pos hyx] at hk
    refine ⟨(hv k hk).2, fun z hz e => ?_⟩
    have h1 := (World.ownsRow.lt (h.wn.rows z hz) k e).2
    have h2 := (hv k hk).1
    omega
  · simp only [if_neg hyx] at hk
    exact ⟨Nat.lt_of_lt_of_le (h.off y hy k hk).1 ht.size, (h.off y hy k hk).2⟩
theorem AX.put {w6 w7 : World} {x : Int} {s : ByteArray} {g cap : Nat} (h : AX w0 w a mb mb2 n D D2 V V2 A K x s) (hx : (Lit.int .i64 x).wf = true)
    (hown : w6.ownsRow w0.heap.size 9 1 (.slice (some ⟨g, 0, none⟩) ((A x).length + 1) cap) ((A x).length + 1) (strs (A x) ++ [.string s])) (hgr : w.grownBy w6 (V2 x).ownBlock) (hat : (V2 x).ownBlock = some g ∨ w.heap.size ≤ g)
    (hm : w7.ownsMap Try.prog 3 rawElem mb2 (n + 1) (D2.put (.int .i64 x) (.held (.slice (some ⟨g, 0, none⟩) ((A x).length + 1) cap)))) (hg7 : w6.grownBy w7 (some mb2)) :
    ∃ D2' V2' K', AW w0 w7 a mb mb2 (n + 1) D D2' V V2' (fun y => if y = x then A x ++ [s] else A y) K' := by
  have hr := h.wn.rows x hx
  obtain ⟨es, clock, hb⟩ := h.wn.map.blk
  have ht6 : Turn (OfRow (V2 x)) w w6 := (Turn.refl _ _).grown hgr fun k hk => .inl hk
  have ht7 : Turn (At mb2) w6 w7 := (Turn.refl _ _).grown hg7 fun k hk => .inl (by injection hk with hk; exact hk.symm)
  have hlt2 : w.heap.size ≤ w7.heap.size := Nat.le_trans ht6.size ht7.size
  obtain ⟨es1, clock1, hb1⟩ := h.ag.map.blk
  have ha6 : Ag w0 w6 a mb (n + 1) D V _ := h.ag.away ht6 (fun k hk => own_base hr k hk) (fun e => own_ne hr h.ag.ha (by decide) a e rfl) (fun e => row_map hr hb1 mb e rfl) fun y hy k hk e => (h.off y hy k hk).2 x hx e
  have hb6 : w6.heap[mb2]? = some (.map es clock) := blk_grown hb hgr fun e => row_map hr hb mb2 e rfl
  have hva : ∀ y, (Lit.int .i64 y).wf = true → ∀ k, (V y).ownBlock = some k → k ≠ mb2 ∨ (if y = x then A x ++ [s] else A y) = [] := fun y hy k hk => by
    obtain ⟨A', c, e, h1, h2, h3⟩ := ha6.rows y hy
    by_cases h0 : (if y = x then A x ++ [s] else A y) = []
    · exact .inr h0
    · left
      obtain ⟨g', o', cells, e1, e2, e3⟩ := h3 (List.length_pos_iff.2 h0)
      rw [e, e1] at hk
      have hk : g' = k := by simpa [Value.ownBlock] using hk
      rintro rfl
      rw [hk, hb6] at e2; cases e2
  refine ⟨_, _, _, ⟨?_, h.wn.put hx hown hgr hat hm hg7, h.ne, fun y hy k hk => ⟨Nat.lt_of_lt_of_le (h.off y hy k hk).1 hlt2, fun z hz => ?_⟩, fun y => ?_⟩⟩
  · refine ⟨ht7.blk ha6.ha (fun e => ?_), ha6.newa, ha6.newm, ha6.turn.then ht7 fun k hk => .inr (by rw [show k = mb2 from hk]; exact h.wn.lo), ha6.map.turn ht7 (fun e => h.ne (show mb = mb2 from e)), fun y hy => ?_⟩
    · have e : a = mb2 := e
      have := ha6.ha
      rw [e, hb6] at this; cases this
    · obtain ⟨A', c, e, h1, h2, h3⟩ := ha6.rows y hy
      refine ⟨A', c, e, h1, h2, fun hp => ?_⟩
      obtain ⟨g', o', cells, e1, e2, e3⟩ := h3 hp
      exact ⟨g', o', cells, e1, ht7.blk e2 (fun e' => by
        have e' : g' = mb2 := e'
        rw [e', hb6] at e2; cases e2), e3⟩
  · by_cases hzx : z = x
    · simp only [if_pos hzx]
      intro e
      have e : g = k := by simpa [Value.ownBlock] using e
      subst e
      rcases hat with h1 | h1
      · exact (h.off y hy g hk).2 x hx h1
      · have := (h.off y hy g hk).1
        omega
    · simp only [if_neg hzx]
      exact (h.off y hy k hk).2 z hz
  · by_cases hyx : y = x
    · subst hyx
      simp only [if_true]
      rw [List.length_append]
      have := h.cnt y
      simp only [List.length_cons, List.length_nil]
      omega
    · simp only [if_neg hyx]
      have := h.cnt y
      omega
end Go.Proofs.Ytdojdhpfhjhmfaa
