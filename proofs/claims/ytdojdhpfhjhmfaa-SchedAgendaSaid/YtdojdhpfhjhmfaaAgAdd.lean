/- What each process has to do: the walk of Add. -/
import Derived.Test.YtdojdhpfhjhmfaaAg
import Derived.Test.YtdojdhpfhjhmfaaShelf
set_option maxRecDepth 16000
set_option linter.unusedVariables false
namespace Go.Proofs.Ytdojdhpfhjhmfaa
open Go.RowKit Go.Maps
variable {w0 w w' : World} {a mb n : Nat} {D : DataW Value} {V : Int → Value} {A : Int → List ByteArray}
theorem cell_below {w w' : World} (hb : Below w.drew.heap.size w.drew w') {p : Addr} {v : Value} (hc : w.cell? p = some v) : w'.cell? p = some v := (hb.cell (World.block_lt_of_cell? w p hc)).trans hc
def strs (l : List ByteArray) : List Value := l.map Value.string
theorem Try.info9 : (Try.prog.info? 9).map (fun i => (i.zero, i.size, i.bytes)) = some (some (.string ⟨#[]⟩), 1, 16) := by kernel_rfl
theorem clone_any {v : Value} {l : List ByteArray} (h : SRow w v l) (hl : l.length ≤ 1000000) : Calls Try.prog 34 #[v] w fun e w' => ∃ v', e = .returned v' ∧ w'.ownsRow w.heap.size 9 1 v' l.length (strs l) ∧ Below w.heap.size w w' := by
  obtain ⟨Ad, c, rfl, h1, h2, h3⟩ := h
  cases Ad with
  | none =>
    have h0 : l = [] := by
      cases l with
      | nil => rfl
      | cons s l =>
        obtain ⟨g, o, cells, e, _⟩ := h3 (by simp)
        cases e
    subst h0
    refine (Try.slices_Clone_string_nil _ _ w).mono ?_
    rintro e w' ⟨rfl, rfl⟩
    exact ⟨_, rfl, ⟨rfl, .inl ⟨rfl, rfl⟩⟩, Below.refl _ _⟩
  | some ad =>
    by_cases h0 : 0 < l.length
    · obtain ⟨g, o, cells, e, e2, e3⟩ := h3 h0
      injection e with e
      subst e
      refine (Try.slices_Clone_string g o l.length c l w (Nat.le_refl _) (by omega) fun j hj => ?_).mono ?_
      · rw [blk_cell e2]
        exact e3 j _ (by rw [List.getD_eq_getElem?_getD, List.getElem?_eq_getElem hj]; rfl)
      · rintro e w' ⟨v', he, hr, _, hb⟩
        rw [List.take_length] at hr
        exact ⟨v', he, hr, hb⟩
    · have h0 : l = [] := List.length_eq_zero_iff.1 (by omega)
      subst h0
      refine (Try.slices_Clone_string_zero ad c w).mono ?_
      rintro e w' ⟨v', he, hr, _, hb⟩
      exact ⟨v', he, hr, hb⟩
theorem SRow.ofOwn {base m : Nat} {v : Value} {l : List ByteArray} (hm : l.length = m) (h : w.ownsRow base 9 1 v m (strs l)) : SRow w v l := by
  subst hm
  rcases h.2 with ⟨rfl, h0⟩ | ⟨g, cap, cur, rfl, hb, hh, h1, h2, h3, h4⟩
  · have h0 : l = [] := List.length_eq_zero_iff.1 h0
    subst h0
    exact SRow.nil _ _ _ (Nat.zero_le _)
  · refine ⟨_, cap, rfl, h1, h2, fun _ => ⟨g, 0, cur, rfl, hh, fun j s hj => ?_⟩⟩
    have := own_elem h j (u := .string s) (by simp [strs, hj])
    rw [blk_cell hh] at this
    rw [Nat.zero_add]
    exact this
theorem news_strs {w1 : World} {l : List ByteArray} {ad : Addr} {j : Nat} {u : Value} (hr : ∀ j s, l[j]? = some s → w.cell? (ad.add j) = some (.string s)) (hb : Below w.drew.heap.size w.drew w1) (hj : (strs l)[j]? = some u) : w1.cell? (ad.add j) = some u := by
  unfold strs at hj
  rw [List.getElem?_map] at hj
  cases hs : l[j]? with
  | none => rw [hs] at hj; cases hj
  | some s => rw [hs] at hj; injection hj with hj; subst hj; exact cell_below hb (hr j s hs)
set_option maxHeartbeats 4000000 in
theorem ag_add (h : Ag w0 w a mb n D V A) (hn : n ≤ 1000000) {x : Int} (hx : (Lit.int .i64 x).wf = true) (ad : Addr) (m c : Nat) (l : List ByteArray) (hm : l.length = m) (hm0 : 0 < m) (hm1 : m ≤ 1000) (hA : (A x).length ≤ 100000)
    (hr : ∀ j s, l[j]? = some s → w.cell? (ad.add j) = some (.string s)) :
    Calls Try.prog 23 #[.pointer (some ⟨a, 0, none⟩), .int .i64 x, .slice (some ad) m c] w fun e w' => e = .returned (.tuple #[]) ∧ (∃ D' V', Ag w0 w' a mb (n + 1) D' V' (fun y => if y = x then A x ++ l else A y)) ∧ Turn (At mb) w w' := by
  have hl := h.look hx
  have HD := Lib.hid (h.nope (Turn.refl Nope w).drew)
  have HL0 := Lib.hid (HD.out.look hx)
  have HSR := Lib.hid (HD.out.rows x hx)
  have HR := Lib.hid hr
  obtain ⟨i9, hi9, hz9, hs9, hb9⟩ := info_parts Try.info9
  have I9 := Lib.hid (And.intro hi9 (And.intro hz9 (And.intro hs9 hb9)))
  clear hi9 hz9 hs9 hb9 hr h hl
  have hl := HL0.out
  have c0 := HD.out.cell
  obtain ⟨Ad, cp, hv, hv1, hv2, hv3⟩ := HSR.out
  rw [hv] at hl
  have hsr := HSR.out
  rw [hv] at hsr
  have HSV := Lib.hid hsr
  have hkey := keyOf_int_mk Try.underlying3 hx
  clear hv hv1 hv2 hv3 hsr
  go_enter Try.func23, Try.ntmps23
  go_region_law (first
    | (rw [if_pos (by simp [Region.wanted])]; go_simp; refine (clone_any HSV.out (by omega)).mono ?_; rintro e w1 ⟨v1, rfl, hr1, hb1⟩; have HR1 := Lib.hid hr1; have HB1 := Lib.hid hb1; have d1 := (HD.out.nope (Turn.ofBelow hb1 Nope)).cell; clear hr1 hb1 hl c0)
    | (refine step_append_lies _ rfl (.tmp 17) (.tmp 18) 53 rfl w.heap.size 9 i9 _ 1 16 Try.underlying53 I9.out.1 I9.out.2.1 I9.out.2.2.1 I9.out.2.2.2 rfl (by omega) v1 (A x).length (strs (A x)) rfl HR1.out ad m c (strs l) rfl (by unfold strs; rw [List.length_map]; omega) (fun j u hj => news_strs (HR.out) HB1.out hj) (by intro u hu; unfold strs at hu; obtain ⟨s, _, rfl⟩ := List.mem_map.1 hu; rfl) hm0 (by show _ ≤ 9223372036854775807; omega) (by omega) HB1.out.size w1.heap.size rfl ?_; intro g1 cap1 w6 hown hgr hat hlt; have HA6 := Lib.hid (HD.out.nope ((Turn.ofBelow HB1.out Nope).grown hgr (fun k hk => .inr (own_base HR1.out k hk)))); have HO6 := Lib.hid hown; have d6 := HA6.out.cell; clear d1; obtain ⟨w7, hrun7, hown7, hg7⟩ := HA6.out.map.1.update law3 Try.underlying56 (by show n < maxLen; unfold maxLen; omega) hkey (val := .slice (some ⟨g1, 0, none⟩) ((A x).length + m) cap1) rfl; have HO7 := Lib.hid hown7; have HG7 := Lib.hid hg7; have HT7 : Hid (Turn (At mb) w w7) := (((Turn.refl _ _).drew.below HB1.out).grown hgr (fun k hk => .inr (own_base HR1.out k hk))).grown hg7 (fun k hk => .inl (by injection hk with hk; exact hk.symm)); clear hown hgr hat hlt hown7 hg7))
  all_goals
    go_end0
    refine ⟨rfl, ⟨_, _, HA6.out.put hx HO7.out HG7.out (SRow.ofOwn (by rw [List.length_append, hm]) (by unfold strs; rw [List.map_append]; exact HO6.out))⟩, HT7.out⟩
end Go.Proofs.Ytdojdhpfhjhmfaa
