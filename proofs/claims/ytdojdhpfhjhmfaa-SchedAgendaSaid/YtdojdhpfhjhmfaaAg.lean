/- What each process has to do: a map of lists, in memory; the walks of Plan, Left, Take. -/
import Derived.Test.YtdojdhpfhjhmfaaLib
import Derived.Deep.RegionLaw
import Derived.Deep.RegionHeld3
import Derived.Maps.RangeWalk
set_option maxRecDepth 16000
set_option linter.unusedVariables false
namespace Go.Proofs.Ytdojdhpfhjhmfaa
open Go.RowKit Go.Maps
/-- A map's elements as they stand: tokens. -/
def rawElem (v : Value) : Option (DataW Value × List MemPlace) := some (.held v, [])
theorem law3 : Keyed Try.prog 3 := int_keyed Try.underlying3
theorem zero53 (w : World) : (zeroValue 53).run Try.prog w = .ok (.slice none 0 0) w := Try.zeroValue53 w
/-- A list of texts in memory. -/
def SRow (w : World) (v : Value) (l : List ByteArray) : Prop := ∃ A c, v = .slice A l.length c ∧ l.length ≤ c ∧ c ≤ maxLen ∧
  (0 < l.length → ∃ g o cells, A = some ⟨g, o, none⟩ ∧ w.heap[g]? = some (.cells cells 9 (0, 0)) ∧ ∀ j s, l[j]? = some s → cells[o + j]? = some (.string s))
theorem SRow.nil (w : World) (c : Nat) (A : Option Addr) (hc : c ≤ maxLen) : SRow w (.slice A 0 c) [] := ⟨A, c, rfl, Nat.zero_le _, hc, fun h => absurd h (Nat.lt_irrefl 0)⟩
theorem SRow.keep {w w' : World} {v : Value} {l : List ByteArray} (h : SRow w v l) (hk : ∀ (g : Nat) (cells : Array Value), w.heap[g]? = some (Obj.cells cells 9 (0, 0)) → w'.heap[g]? = some (Obj.cells cells 9 (0, 0))) : SRow w' v l := by
  obtain ⟨A, c, e, h1, h2, h3⟩ := h
  refine ⟨A, c, e, h1, h2, fun hp => ?_⟩
  obtain ⟨g, o, cells, e1, e2, e3⟩ := h3 hp
  exact ⟨g, o, cells, e1, hk g cells e2, e3⟩
theorem SRow.at_ {w : World} {v : Value} {l : List ByteArray} (h : SRow w v l) {j : Nat} {x : ByteArray} (hj : l[j]? = some x) : ∃ g o c, v = .slice (some ⟨g, o, none⟩) l.length c ∧ w.cell? ⟨g, o + j, none⟩ = some (.string x) := by
  obtain ⟨A, c, e, h1, h2, h3⟩ := h
  have hlt : j < l.length := (List.getElem?_eq_some_iff.1 hj).1
  obtain ⟨g, o, cells, rfl, e2, e3⟩ := h3 (by omega)
  exact ⟨g, o, c, e, by rw [blk_cell e2]; exact e3 j x hj⟩
theorem SRow.tail {w : World} {g o c : Nat} {x : ByteArray} {l : List ByteArray} (h : SRow w (.slice (some ⟨g, o, none⟩) (l.length + 1) c) (x :: l)) : SRow w (.slice (some ⟨g, o + 1, none⟩) l.length (c - 1)) l := by
  obtain ⟨A, c', e, h1, h2, h3⟩ := h
  injection e with e1 e2 e3
  subst e1; subst e3
  simp only [List.length_cons] at h1 h3
  refine ⟨_, _, rfl, by omega, by omega, fun hp => ?_⟩
  obtain ⟨g', o', cells, e4, h4, h5⟩ := h3 (by omega)
  injection e4 with e4
  injection e4 with e5 e6
  subst e5; subst e6
  refine ⟨g, o + 1, cells, rfl, h4, fun j y hj => ?_⟩
  have := h5 (j + 1) y (by simpa using hj)
  rw [show o + (j + 1) = o + 1 + j by omega] at this
  exact this
/-- The map: what it holds at each number. -/
def MapV (w : World) (mb n : Nat) (D : DataW Value) (V : Int → Value) : Prop := w.ownsMap Try.prog 3 rawElem mb n D ∧ ∀ x, (Lit.int .i64 x).wf = true → D.atKey (.int .i64 x) (.held (.slice none 0 0)) = .held (V x)
structure Ag (w0 w : World) (a mb n : Nat) (D : DataW Value) (V : Int → Value) (A : Int → List ByteArray) : Prop where
  ha : w.heap[a]? = some (.cells #[.map (some mb)] 76 (0, 0))
  newa : w0.heap.size ≤ a
  newm : w0.heap.size ≤ mb
  turn : Turn Nope w0 w
  map : MapV w mb n D V
  rows : ∀ x, (Lit.int .i64 x).wf = true → SRow w (V x) (A x)
variable {w0 w w' : World} {a mb n : Nat} {D : DataW Value} {V : Int → Value} {A : Int → List ByteArray}
theorem Ag.nope (h : Ag w0 w a mb n D V A) (ht : Turn Nope w w') : Ag w0 w' a mb n D V A := by
  have hk : ∀ (g : Nat) (o : Obj), w.heap[g]? = some o → w'.heap[g]? = some o := fun g o hg => ht.blk hg fun h => h
  refine ⟨hk _ _ h.ha, h.newa, h.newm, h.turn.trans ht, ⟨?_, h.map.2⟩, fun x hx => (h.rows x hx).keep fun g cells hg => hk _ _ hg⟩
  obtain ⟨es, clock, hb, F, hs, hD⟩ := h.map.1
  exact ⟨es, clock, hk _ _ hb, F, hs, hD⟩
theorem make_map (W : World) : (Instr.makeMap 56 none).run Try.prog W = .ok (.map (some W.heap.size)) (W.alloc (.map #[] 0)) := by
  first | exact run_makeMap W _ | kernel_rfl | rfl
theorem ag_new (w0 w : World) (ht : Turn Nope w0 w) : Calls Try.prog 21 #[] w fun e w' => ∃ a mb, e = .returned (.pointer (some ⟨a, 0, none⟩)) ∧ Ag w0 w' a mb 0 (.map []) (fun _ => .slice none 0 0) (fun _ => []) ∧ Turn Nope w w' := by
  have HT := Lib.hid ht
  clear ht
  have hmp := make_map
  go_enter Try.func21, Try.ntmps21
  go_wp2_with fail
  go_ret
  refine ⟨_, w.heap.size, rfl, ⟨(by have := blk_new (w.alloc (.map #[] 0)) (.cells #[.map (some w.heap.size)] 76); simpa using this), Nat.le_trans HT.out.size (by simp), HT.out.size, (HT.out.alloc _).alloc _, ⟨(World.ownsMap_made w _ _ _).alloc _, fun x _ => rfl⟩, fun x _ => SRow.nil _ _ _ (Nat.zero_le _)⟩, ((Turn.refl _ _).alloc _).alloc _⟩
theorem Ag.look (h : Ag w0 w a mb n D V A) {x : Int} (hx : (Lit.int .i64 x).wf = true) : (Instr.lookup 56 (.map (some mb)) (.int .i64 x) false).run Try.prog w = .ok (V x) w := by
  obtain ⟨v, ps, hrun, hv⟩ := h.map.1.lookup law3 Try.underlying56 (zero53 w) (zd := .held (.slice none 0 0)) (zp := []) rfl (keyOf_int_mk Try.underlying3 hx)
  rw [h.map.2 x hx] at hv
  have e : v = V x := by
    unfold rawElem at hv
    injection hv with hv
    injection hv with hv _
    injection hv with hv
  rw [e] at hrun
  exact hrun
theorem ag_left (h : Ag w0 w a mb n D V A) {x : Int} (hx : (Lit.int .i64 x).wf = true) : Calls Try.prog 25 #[.pointer (some ⟨a, 0, none⟩), .int .i64 x] w fun e w' => e = .returned (.int .i64 ((A x).length : Int)) ∧ w = w' := by
  obtain ⟨Ad, c, hv, h1, h2, h3⟩ := h.rows x hx
  have hl := h.look hx
  rw [hv] at hl
  have c0 := blk_cell h.ha 0
  simp only [List.getElem?_toArray, List.getElem?_cons_zero] at c0
  clear h hv h3 h1 h2
  go_enter Try.func25, Try.ntmps25
  go_wp2_with fail
  go_ret
  exact ⟨rfl, rfl⟩
/-- The map's block turns. -/
theorem Ag.mapped {D' : DataW Value} {V' : Int → Value} {A' : Int → List ByteArray} {n' : Nat} (h : Ag w0 w a mb n D V A) (hg : w.grownBy w' (some mb)) (hm : MapV w' mb n' D' V') (hr : ∀ x, (Lit.int .i64 x).wf = true → SRow w (V' x) (A' x)) : Ag w0 w' a mb n' D' V' A' := by
  have hne : a ≠ mb := by
    rintro rfl
    obtain ⟨es, clock, hb, _⟩ := h.map.1
    rw [h.ha] at hb
    cases hb
  refine ⟨blk_grown h.ha hg (fun e => by injection e with e; exact hne e.symm), h.newa, h.newm, h.turn.grown hg (fun k hk => .inr (by injection hk with hk; rw [← hk]; exact h.newm)), hm, fun x hx => (hr x hx).keep fun g cells hc => blk_grown hc hg (fun e => ?_)⟩
  injection e with e
  subst e
  obtain ⟨es, clock, hb, _⟩ := h.map.1
  rw [hc] at hb
  cases hb
theorem MapV.put {w1 : World} {x : Int} {v : Value} (h : MapV w mb n D V) (hx : (Lit.int .i64 x).wf = true) (h1 : w1.ownsMap Try.prog 3 rawElem mb (n + 1) (D.put (.int .i64 x) (.held v))) : MapV w1 mb (n + 1) (D.put (.int .i64 x) (.held v)) (fun y => if y = x then v else V y) := by
  refine ⟨h1, fun y hy => ?_⟩
  show _ = DataW.held (if y = x then v else V y)
  by_cases hyx : y = x
  · subst hyx
    rw [if_pos rfl]
    exact atKey_put_same h.1.isMap (show WideAt.IsKeyLit (.int .i64 y) from trivial) _ _
  · rw [if_neg hyx, atKey_put_other (by simpa using hyx)]
    exact h.2 y hy
theorem Ag.put {w1 : World} {x : Int} {v : Value} {l : List ByteArray} (h : Ag w0 w a mb n D V A) (hx : (Lit.int .i64 x).wf = true) (h1 : w1.ownsMap Try.prog 3 rawElem mb (n + 1) (D.put (.int .i64 x) (.held v))) (hg : w.grownBy w1 (some mb)) (hr : SRow w v l) :
    Ag w0 w1 a mb (n + 1) (D.put (.int .i64 x) (.held v)) (fun y => if y = x then v else V y) (fun y => if y = x then l else A y) := by
  refine h.mapped hg (h.map.put hx h1) fun y hy => ?_
  show SRow w (if y = x then v else V y) (if y = x then l else A y)
  by_cases hyx : y = x
  · rw [if_pos hyx, if_pos hyx]; exact hr
  · rw [if_neg hyx, if_neg hyx]; exact h.rows y hy
theorem Ag.del {w1 : World} {x : Int} (h : Ag w0 w a mb n D V A) (hx : (Lit.int .i64 x).wf = true) (h1 : w1.ownsMap Try.prog 3 rawElem mb n (D.del (.int .i64 x))) (hg : w.grownBy w1 (some mb)) :
    Ag w0 w1 a mb n (D.del (.int .i64 x)) (fun y => if y = x then .slice none 0 0 else V y) (fun y => if y = x then [] else A y) := by
  refine h.mapped hg ⟨h1, fun y hy => ?_⟩ fun y hy => ?_
  · show _ = DataW.held (if y = x then .slice none 0 0 else V y)
    by_cases hyx : y = x
    · subst hyx
      rw [if_pos rfl]
      exact atKey_del_same _
    · rw [if_neg hyx, atKey_del_other (by simpa using hyx)]
      exact h.map.2 y hy
  · show SRow w (if y = x then .slice none 0 0 else V y) (if y = x then [] else A y)
    by_cases hyx : y = x
    · rw [if_pos hyx, if_pos hyx]; exact SRow.nil _ _ _ (Nat.zero_le _)
    · rw [if_neg hyx, if_neg hyx]; exact h.rows y hy
theorem Ag.cell (h : Ag w0 w a mb n D V A) : w.cell? ⟨a, 0, none⟩ = some (.map (some mb)) := by
  have c0 := blk_cell h.ha 0
  simpa using c0
theorem SRow.cell0 {g o c : Nat} {s : ByteArray} {l : List ByteArray} (h : SRow w (.slice (some ⟨g, o, none⟩) (l.length + 1) c) (s :: l)) : w.cell? ⟨g, o, none⟩ = some (.string s) := by
  obtain ⟨g', o', c', e, hc⟩ := h.at_ (j := 0) rfl
  injection e with e _ _
  injection e with e
  injection e with e1 e2
  subst e1; subst e2
  exact hc
theorem grown_alone {w1 w2 : World} {b : Nat} (h : w1.mapTurned w2 b) : w1.grownBy w2 (some b) := h.grown
set_option maxHeartbeats 4000000 in
theorem ag_take_none (h : Ag w0 w a mb n D V A) {x : Int} (hx : (Lit.int .i64 x).wf = true) (hA : A x = []) : Calls Try.prog 26 #[.pointer (some ⟨a, 0, none⟩), .int .i64 x] w fun e w' => e = .returned (.tuple #[.string ⟨#[]⟩, .bool false]) ∧ w = w' := by
  obtain ⟨Ad, c, hv, h1, h2, h3⟩ := h.rows x hx
  have hl := h.look hx
  rw [hv, hA] at hl
  have c0 := blk_cell h.ha 0
  simp only [List.getElem?_toArray, List.getElem?_cons_zero] at c0
  clear h hv h3 h1 h2 hA
  go_enter Try.func26, Try.ntmps26
  go_wp2_with fail
  go_ret2
  exact ⟨rfl, rfl⟩
set_option maxHeartbeats 4000000 in
theorem ag_take_some (h : Ag w0 w a mb n D V A) (hn : n ≤ 1000000) {x : Int} (hx : (Lit.int .i64 x).wf = true) {s : ByteArray} {l : List ByteArray} (hA : A x = s :: l) (hl1 : l.length ≤ 1000000) :
    Calls Try.prog 26 #[.pointer (some ⟨a, 0, none⟩), .int .i64 x] w fun e w' => e = .returned (.tuple #[.string s, .bool true]) ∧ (∃ D' V', Ag w0 w' a mb (n + 1) D' V' (fun y => if y = x then l else A y)) ∧ Turn (At mb) w w' := by
  have hr := h.rows x hx
  rw [hA] at hr
  obtain ⟨g, o, c, hv, ce⟩ := hr.at_ (j := 0) rfl
  have hl := h.look hx
  simp only [List.length_cons, Nat.add_zero] at hv ce
  rw [hv] at hl hr
  have ht := hr.tail
  have hc : l.length + 1 ≤ c ∧ c ≤ maxLen := by obtain ⟨A', c', e, h1, h2, _⟩ := hr; injection e with _ _ e; rw [e]; exact ⟨by simpa using h1, h2⟩
  have c0 := blk_cell h.ha 0
  have cf := blk_frozen h.ha 0
  simp only [List.getElem?_toArray, List.getElem?_cons_zero] at c0
  have HS := Lib.hid h
  have HT := Lib.hid ht
  have HR := Lib.hid hr
  have HC : Hid (c - 1 ≤ maxLen) := (by have := hc.2; omega : c - 1 ≤ maxLen)
  have hc := hc.1
  clear h hv hA hr ht
  have p1 : (1 : Int) ≤ (l.length : Int) + 1 := by omega
  have p2 : (1 : Int) ≤ (c : Int) := by omega
  have z1 : ((l.length : Int) + 1 == 0) = false := by rw [beq_eq_false_iff_ne]; omega
  have hkey := keyOf_int_mk Try.underlying3 hx
  cases l with
  | nil =>
    have p3 : (1 : Int) ≤ 1 := by omega
    clear hc
    go_enter Try.func26, Try.ntmps26
    go_wp2_with (first | (refine still_tail (id := 4) 7 (by kernel_rfl) (by kernel_rfl) ?_; simp only [List.take_succ_cons, List.take_zero, List.drop_succ_cons, List.drop_zero]; (repeat still_step); refine wpStill_nil ?_) | (at_mapUpdate; refine wpList_mapUpdate_own _ rfl _ _ _ 56 rfl 3 53 law3 Try.underlying56 rawElem mb n D rfl HS.out.map.1.drew (by show n < maxLen; unfold maxLen; omega) _ _ (.int .i64 x) rfl rfl hkey _ [] rfl ?_; intro w5 hown1 hgrow1; have HT5 : Hid (Turn (At mb) w w5) := (Turn.refl _ _).drew.grown hgrow1 (fun k hk => .inl (by injection hk with hk; exact hk.symm)); have HA5 := Lib.hid ((HS.out.nope (Turn.refl _ _).drew).put hx hown1 hgrow1 (l := []) (SRow.nil _ _ _ HC.out)); have HR5 : Hid (∃ g' o' cells, (⟨g, o, none⟩ : Addr) = ⟨g', o', none⟩ ∧ w5.heap[g']? = some (.cells cells 9 (0, 0)) ∧ cells[o']? = some (.string s)) := (by obtain ⟨A', c', e, h1, h2, h3⟩ := HR.out; obtain ⟨g', o', cells, e1, e2, e3⟩ := h3 (by simp); injection e with e _ _; rw [e1] at e; injection e with e; exact ⟨g', o', cells, e, blk_grown (w := w.drew) e2 hgrow1 (fun e => by injection e with e; subst e; obtain ⟨es, clock, hb, _⟩ := HS.out.map.1; rw [e2] at hb; cases hb), e3 0 s rfl⟩); have d0 := HA5.out.cell; clear c0 ce cf hl; clear hown1 hgrow1) | (at_delete; refine wpList_delete_own _ rfl _ _ 56 3 rfl 53 law3 Try.underlying56 rawElem mb (n + 1) _ rfl HA5.out.map.1 _ _ rfl hkey ?_; intro w6 hown1 hturn1; have HT6 : Hid (Turn (At mb) w w6) := HT5.out.grown hturn1.grown (fun k hk => .inl (by injection hk with hk; exact hk.symm)); have HA6 := Lib.hid (HA5.out.del hx hown1 hturn1.grown); have HC6 : Hid (w6.cell? ⟨g, o, none⟩ = some (.string s)) := (by obtain ⟨g', o', cells, e1, e2, e3⟩ := HR5.out; rw [e1, blk_cell (blk_grown e2 hturn1.grown (fun e => by injection e with e; subst e; obtain ⟨es, clock, hb, _⟩ := HA5.out.map.1; rw [e2] at hb; cases hb))]; exact e3); have e0 := HC6.out; clear hown1 hturn1 d0))
    all_goals
      go_ret2
      exact ⟨rfl, ⟨_, _, by have h := HA6.out; have e : (fun y => if y = x then [] else (fun y => if y = x then [] else A y) y) = (fun y => if y = x then [] else A y) := (by funext y; by_cases h : y = x <;> simp [h]); rw [e] at h; exact h⟩, HT6.out⟩
  | cons s2 l2 =>
    have hc2 : ¬ c = 1 := by simp at hc; omega
    have q1 : ((1 : Nat) == c) = false := by simp; omega
    have z2 : ((((s2 :: l2).length : Nat) : Int) + 1 == 1) = false := by rw [beq_eq_false_iff_ne]; simp; omega
    generalize hL : s2 :: l2 = L at *
    clear hc hL
    go_enter Try.func26, Try.ntmps26
    go_wp2_with (first | (refine still_tail (id := 4) 7 (by kernel_rfl) (by kernel_rfl) ?_; simp only [List.take_succ_cons, List.take_zero, List.drop_succ_cons, List.drop_zero]; (repeat still_step); refine wpStill_nil ?_) | (at_mapUpdate; refine wpList_mapUpdate_own _ rfl _ _ _ 56 rfl 3 53 law3 Try.underlying56 rawElem mb n D rfl HS.out.map.1.drew (by show n < maxLen; unfold maxLen; omega) _ _ (.int .i64 x) rfl rfl hkey _ [] rfl ?_; intro w5 hown1 hgrow1; have HT5 : Hid (Turn (At mb) w w5) := (Turn.refl _ _).drew.grown hgrow1 (fun k hk => .inl (by injection hk with hk; exact hk.symm)); have HA5 := Lib.hid ((HS.out.nope (Turn.refl _ _).drew).put hx hown1 hgrow1 (HT.out.keep fun g cells hg => hg)); have HR5 := Lib.hid (HR.out.keep (w' := w5) fun g' cells hg => blk_grown (w := w.drew) hg hgrow1 (fun e => by injection e with e; subst e; obtain ⟨es, clock, hb, _⟩ := HS.out.map.1; rw [hg] at hb; cases hb)); have d0 := HR5.out.cell0; clear c0 ce cf hl; clear hown1 hgrow1))
    go_ret2
    exact ⟨rfl, ⟨_, _, HA5.out⟩, HT5.out⟩
end Go.Proofs.Ytdojdhpfhjhmfaa
