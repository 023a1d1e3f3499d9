import Derived.Test.YtlhicppcoojgdaaDue
import Derived.Test.YtlhicppcoojgdaaPRankPlaysx1
set_option linter.unusedVariables false
namespace Go.Proofs.Ytlhicppcoojgdaa
open PRankPlays Go.RowKit Go.Proofs.YtlhicppcoojgdaaW.PrintWords Go.Proofs.YtlhicppcoojgdaaW.PrintLast Go.Proofs.YtlhicppcoojgdaaW.PrintMore
def toS (x : Thing) : S39 := ⟨x.1, x.2⟩
theorem rd39 {l : List Thing} {i : Nat} {x : Thing} (h : l[i]? = some x) : rd_T39 (l.map toS) (i : Int) = toS x := by
  unfold rd_T39
  rw [Int.toNat_natCast, List.getD_eq_getElem?_getD, List.getElem?_map, h]
  rfl
theorem drop_at {α : Type} {l : List α} {i : Nat} {x : α} (h : l[i]? = some x) : l.drop i = x :: l.drop (i + 1) := by
  obtain ⟨hl, e⟩ := List.getElem?_eq_some_iff.1 h
  rw [List.drop_eq_getElem_cons hl, e]
theorem wrap_up {i n : Nat} (h : i < n) (hn : n ≤ 100000) : wrap64 ((i : Int) + 1) = ((i + 1 : Nat) : Int) := by unfold wrap64; omega
theorem add_l0 (x : Thing) (l : List Thing) (hl : l.length ≤ 1000) : ∀ (d i k : Nat) (out : List S39) (b : Bool), i + d = l.length → d < k → out.length + 2 * d ≤ 100000 →
    hindsightref04_Add.l0 k out b (l.map toS) ((l.map toS).length : Int) (i : Int) x.1 x.2 = some (out ++ (if b = true then l.drop i else insR x (l.drop i)).map toS) := by
  intro d
  induction d with
  | zero =>
    intro i k out b hi hk ho
    obtain ⟨k, rfl⟩ : ∃ m, k = m + 1 := ⟨k - 1, by omega⟩
    have e : l.drop i = [] := List.drop_eq_nil_of_le (by omega)
    simp only [hindsightref04_Add.l0]
    rw [if_neg (by rw [List.length_map]; omega), e]
    cases b
    · rw [if_neg (by decide), if_pos (by omega)]; rfl
    · rw [if_pos rfl]; simp
  | succ d ih =>
    intro i k out b hi hk ho
    obtain ⟨k, rfl⟩ : ∃ m, k = m + 1 := ⟨k - 1, by omega⟩
    obtain ⟨y, hy⟩ : ∃ y, l[i]? = some y := ⟨l[i]'(by omega), List.getElem?_eq_getElem (by omega)⟩
    simp only [hindsightref04_Add.l0]
    rw [if_pos (by rw [List.length_map]; omega), if_pos (by omega), if_pos (by rw [List.length_map]; omega), rd39 hy, drop_at hy, wrap_up (n := l.length) (by omega) (by omega)]
    cases b
    · rw [if_neg (show ¬ (false = true) by decide), if_neg (show ¬ (false = true) by decide), insR_c]
      by_cases hlt : x.1 < y.1
      · rw [if_pos (show x.1 < (toS y).f0 from hlt), if_pos hlt, if_pos (by omega)]
        simp only [Option.bind_some]
        rw [if_pos (by simp; omega), ih (i + 1) k _ true (by omega) (by omega) (by simp; omega)]
        simp [toS]
      · rw [if_neg (show ¬ x.1 < (toS y).f0 from hlt), if_neg hlt, if_pos (by omega), ih (i + 1) k _ false (by omega) (by omega) (by simp; omega)]
        simp [toS]
    · rw [if_pos rfl, if_pos rfl, if_pos (by omega), ih (i + 1) k _ true (by omega) (by omega) (by simp; omega)]
      simp [toS]
theorem add_f (x : Thing) (l : List Thing) (hl : l.length ≤ 1000) : hindsightref04_Add.f 2000 (l.map toS) x.1 x.2 = some ((insR x l).map toS) := by
  unfold hindsightref04_Add.f
  have := add_l0 x l hl l.length 0 2000 [] false (by omega) (by omega) (by simp; omega)
  simpa using this
theorem drop_l0 (who : Int) (l : List Thing) (hl : l.length ≤ 1000) : ∀ (d i k : Nat) (out : List S39), i + d = l.length → d < k → out.length + d ≤ 100000 →
    hindsightref04_Drop.l0 k who out (l.map toS) ((l.map toS).length : Int) (i : Int) = some (out ++ (notOfT who (l.drop i)).map toS) := by
  intro d
  induction d with
  | zero =>
    intro i k out hi hk ho
    obtain ⟨k, rfl⟩ : ∃ m, k = m + 1 := ⟨k - 1, by omega⟩
    have e : l.drop i = [] := List.drop_eq_nil_of_le (by omega)
    simp only [hindsightref04_Drop.l0]
    rw [if_neg (by rw [List.length_map]; omega), e]
    simp [notOfT]
  | succ d ih =>
    intro i k out hi hk ho
    obtain ⟨k, rfl⟩ : ∃ m, k = m + 1 := ⟨k - 1, by omega⟩
    obtain ⟨y, hy⟩ : ∃ y, l[i]? = some y := ⟨l[i]'(by omega), List.getElem?_eq_getElem (by omega)⟩
    simp only [hindsightref04_Drop.l0]
    rw [if_pos (by rw [List.length_map]; omega), if_pos (by omega), if_pos (by rw [List.length_map]; omega), rd39 hy, drop_at hy, wrap_up (n := l.length) (by omega) (by omega)]
    by_cases he : y.2 = who
    · rw [if_pos (show (toS y).f1 = who from he), ih (i + 1) k _ (by omega) (by omega) (by omega)]
      simp [notOfT, he]
    · rw [if_neg (show ¬ (toS y).f1 = who from he), if_pos (by omega), ih (i + 1) k _ (by omega) (by omega) (by simp; omega)]
      simp [notOfT, he, toS]
theorem drop_f (who : Int) (l : List Thing) (hl : l.length ≤ 1000) : hindsightref04_Drop.f 2000 (l.map toS) who = some ((notOfT who l).map toS) := by
  unfold hindsightref04_Drop.f
  have := drop_l0 who l hl l.length 0 2000 [] (by omega) (by omega) (by simp; omega)
  simpa using this
theorem due_l0 (t : Int) (l : List Thing) (hl : l.length ≤ 1000) : ∀ (d i k : Nat) (ws : List Int) (out : List S39), i + d = l.length → d < k → ws.length + d ≤ 100000 → out.length + d ≤ 100000 →
    hindsightref04_Due.l0 k t ws out (l.map toS) ((l.map toS).length : Int) (i : Int) = some (out ++ (lateOf t (l.drop i)).map toS, ws ++ (dueOf t (l.drop i)).map (·.2)) := by
  intro d
  induction d with
  | zero =>
    intro i k ws out hi hk ho1 ho
    obtain ⟨k, rfl⟩ : ∃ m, k = m + 1 := ⟨k - 1, by omega⟩
    have e : l.drop i = [] := List.drop_eq_nil_of_le (by omega)
    simp only [hindsightref04_Due.l0]
    rw [if_neg (by rw [List.length_map]; omega), e]
    simp [lateOf, dueOf]
  | succ d ih =>
    intro i k ws out hi hk ho1 ho
    obtain ⟨k, rfl⟩ : ∃ m, k = m + 1 := ⟨k - 1, by omega⟩
    obtain ⟨y, hy⟩ : ∃ y, l[i]? = some y := ⟨l[i]'(by omega), List.getElem?_eq_getElem (by omega)⟩
    simp only [hindsightref04_Due.l0]
    rw [if_pos (by rw [List.length_map]; omega), if_pos (by omega), if_pos (by rw [List.length_map]; omega), rd39 hy, drop_at hy, wrap_up (n := l.length) (by omega) (by omega)]
    by_cases he : y.1 ≤ t
    · rw [if_pos (show (toS y).f0 ≤ t from he), if_pos (by omega), ih (i + 1) k _ _ (by omega) (by omega) (by simp; omega) (by omega)]
      simp [lateOf, dueOf, dueT, he, toS]
    · rw [if_neg (show ¬ (toS y).f0 ≤ t from he), if_pos (by omega), ih (i + 1) k _ _ (by omega) (by omega) (by omega) (by simp; omega)]
      simp [lateOf, dueOf, dueT, he, toS]
theorem due_f (t : Int) (l : List Thing) (hl : l.length ≤ 1000) : hindsightref04_Due.f 2000 (l.map toS) t = some ((lateOf t l).map toS, (dueOf t l).map (·.2)) := by
  unfold hindsightref04_Due.f
  have := due_l0 t l hl l.length 0 2000 [] [] (by omega) (by omega) (by simp; omega) (by simp; omega)
  simpa using this
theorem same_l0 (l : List Int) (hl : l.length ≤ 1000) : ∀ (d i k : Nat), i + d = l.length → d < k → hindsightlaw04_same.l0 k l l (l.length : Int) (i : Int) = some true := by
  intro d
  induction d with
  | zero =>
    intro i k hi hk
    obtain ⟨k, rfl⟩ : ∃ m, k = m + 1 := ⟨k - 1, by omega⟩
    simp only [hindsightlaw04_same.l0]
    rw [if_neg (by omega)]
  | succ d ih =>
    intro i k hi hk
    obtain ⟨k, rfl⟩ : ∃ m, k = m + 1 := ⟨k - 1, by omega⟩
    simp only [hindsightlaw04_same.l0]
    rw [if_pos (by omega), if_pos (by omega), if_pos (by omega), if_pos (by omega), if_pos trivial, wrap_up (n := l.length) (by omega) (by omega), ih (i + 1) k (by omega) (by omega)]
theorem same_f (l : List Int) (hl : l.length ≤ 1000) : hindsightlaw04_same.f 2000 l l = some true := by
  unfold hindsightlaw04_same.f
  rw [if_pos rfl]
  exact same_l0 l hl l.length 0 2000 (by omega) (by omega)
/-! ### The document's list in memory -/
def RowT (w : World) (v : Value) (l : List Thing) : Prop := ∃ A c, v = .slice A l.length c ∧ l.length ≤ c ∧ c ≤ maxLen ∧
  (0 < l.length → ∃ g o cells, A = some ⟨g, o, none⟩ ∧ w.heap[g]? = some (.cells cells 39 (0, 0)) ∧ ∀ j x, l[j]? = some x → cells[o + j * 2]? = some (.int .i64 x.1) ∧ cells[o + j * 2 + 1]? = some (.int .i64 x.2))
theorem RowT.kp {w w' : World} {v : Value} {l : List Thing} (h : RowT w v l) (hk : Kp w w') : RowT w' v l := by
  obtain ⟨A, c, e, h1, h2, h3⟩ := h
  refine ⟨A, c, e, h1, h2, fun hp => ?_⟩
  obtain ⟨g, o, cells, e1, e2, e3⟩ := h3 hp
  exact ⟨g, o, cells, e1, hk g cells 39 e2 (by decide) (by decide) (by decide), e3⟩
theorem RowT.at_ {w : World} {v : Value} {l : List Thing} (h : RowT w v l) {j : Nat} {x : Thing} (hj : l[j]? = some x) : ∃ g o c, v = .slice (some ⟨g, o, none⟩) l.length c ∧ w.cell? ⟨g, o + j * 2, none⟩ = some (.int .i64 x.1) ∧ w.cell? ⟨g, o + j * 2 + 1, none⟩ = some (.int .i64 x.2) := by
  obtain ⟨A, c, e, h1, h2, h3⟩ := h
  have hlt : j < l.length := (List.getElem?_eq_some_iff.1 hj).1
  obtain ⟨g, o, cells, rfl, e2, e3⟩ := h3 (by omega)
  obtain ⟨c0, c1⟩ := e3 j x hj
  exact ⟨g, o, c, e, by rw [blk_cell e2]; exact c0, by rw [blk_cell e2]; exact c1⟩
theorem add_zero' (a : Addr) : a.add 0 = a := by unfold Addr.add; rw [if_pos rfl]
theorem RowT.reads {w : World} {v : Value} {l : List Thing} (h : RowT w v l) : ∃ A c, v = .slice A l.length c ∧ l.length ≤ c ∧ Kd.C k39 w A (l.map toS).length (l.map toS) := by
  obtain ⟨A, c, e, h1, h2, h3⟩ := h
  refine ⟨A, c, e, h1, rfl, ?_, fun hp => ?_⟩
  · rw [List.length_map]; exact Nat.le_trans h1 h2
  · obtain ⟨g, o, cells, rfl, e2, e3⟩ := h3 (by simpa using hp)
    refine ⟨_, rfl, fun j p hj => ?_⟩
    rw [List.getElem?_map] at hj
    cases hx : l[j]? with
    | none => rw [hx] at hj; cases hj
    | some x =>
      rw [hx] at hj
      injection hj with hj
      subst hj
      obtain ⟨c0, c1⟩ := e3 j x hx
      refine ⟨_, rfl, k39_mk w (toS x), fun i u hu => ?_⟩
      have key : ∀ m, (⟨g, o, none⟩ : Addr).add m = ⟨g, o + m, none⟩ := fun m => by unfold Addr.add; split <;> simp_all
      rw [key, blk_cell e2]
      match i, hu with
      | 0, hu => injection hu with hu; subst hu; exact c0
      | 1, hu => injection hu with hu; subst hu; exact c1
      | i + 2, hu => cases hu
theorem RowT.ofR {w : World} {base : Nat} {P : Nat → Prop} {v : Value} {l : List Thing} (h : Kd.R k39 39 w base P v (l.map toS)) : RowT w v l := by
  obtain ⟨_, inner, ho, hr1, hr2⟩ := h
  rw [List.length_map] at ho
  rcases ho.2 with ⟨rfl, h0⟩ | ⟨g, cap, cur, rfl, hb, hh, h1, h2, h3, h4⟩
  · refine ⟨none, 0, by rw [h0], by omega, Nat.zero_le _, fun hp => by omega⟩
  · refine ⟨_, cap, rfl, h1, h2, fun _ => ⟨g, 0, cur, rfl, hh, fun j x hj => ?_⟩⟩
    have hlt : j < l.length := (List.getElem?_eq_some_iff.1 hj).1
    have hm := k39_openM (hr2 j (toS x) (by rw [List.getElem?_map, hj]; rfl))
    have key : ∀ i, i < 2 → cur[0 + j * 2 + i]? = ([Value.int .i64 (toS x).f0, .int .i64 (toS x).f1] : List Value)[i]? := fun i hi => by
      have h5 : inner[j * 2 + i]? = cur[0 + j * 2 + i]? := by
        rw [← h4, List.getElem?_take_of_lt (by show j * 2 + i < l.length * 2; omega), Array.getElem?_toList, Nat.zero_add]
      rw [← h5, ← hm, List.getElem?_take_of_lt (by show i < 2; exact hi), List.getElem?_drop]
      rfl
    exact ⟨key 0 (by omega), key 1 (by omega)⟩
end Go.Proofs.Ytlhicppcoojgdaa
