import Derived.Test.YtpcfgigmchndjaaLog
import Derived.Deep.LoopGhost
namespace Go.Proofs.Ytpcfgigmchndjaa
open Go.RowKit Go.Maps
variable {w w' : World} {base : Nat} {F : Nat → Prop} {g bc bm : Nat} {vl : Value} {cs : List ByteArray} {cl log : List Dn}
theorem own_form {w : World} {base e size n : Nat} {A : Option Addr} {c : Nat} {xs : List Value} (h : w.ownsRow base e size (.slice A n c) n xs) (hn : 0 < n) : ∃ g, A = some ⟨g, 0, none⟩ := by
  rcases h.2 with ⟨h1, h2⟩ | ⟨g, cap, cur, h1, _⟩
  · simp at h1; omega
  · simp at h1; exact ⟨g, h1.1⟩
theorem acc_at {l : List Dn} : ∀ {i : Nat} {d : Dn}, l[i]? = some d → ∀ r, r < 4 → (l.flatMap accCells)[i * 4 + r]? = (accCells d)[r]? := by
  induction l with
  | nil => intro i d h; simp at h
  | cons x l ih =>
    intro i d h r hr
    cases i with
    | zero =>
      simp at h; subst h
      rw [List.flatMap_cons, List.getElem?_append_left (by simp [accCells]; omega)]
      simp
    | succ i =>
      have hx : (accCells x).length = 4 := rfl
      rw [List.flatMap_cons, List.getElem?_append_right (by rw [hx]; omega), hx]
      have := ih (by simpa using h) r hr
      rw [← this]
      congr 1
      omega
/-- One access, for who counts the Swaps of a cell. -/
def swStep (cell : Int) (z : Int × ByteArray) (d : Dn) : Int × ByteArray :=
  if d.c ≠ cell ∨ d.k = 1 then z else if d.k = 2 then (z.1, d.nw) else if z.2 = d.old then (z.1 + 1, d.nw) else z
def swFold (cell : Int) (l : List Dn) : Int × ByteArray := l.foldl (swStep cell) (0, ⟨#[]⟩)
theorem swFold_le (cell : Int) (l : List Dn) : 0 ≤ (swFold cell l).1 ∧ (swFold cell l).1 ≤ l.length := by
  have : ∀ (l : List Dn) (z : Int × ByteArray), z.1 ≤ (l.foldl (swStep cell) z).1 ∧ (l.foldl (swStep cell) z).1 ≤ z.1 + l.length := by
    intro l
    induction l with
    | nil => intro z; simp
    | cons d l ih =>
      intro z
      have h1 := ih (swStep cell z d)
      have h2 : z.1 ≤ (swStep cell z d).1 ∧ (swStep cell z d).1 ≤ z.1 + 1 := by
        unfold swStep
        repeat' split
        all_goals simp; try omega
      simp only [List.foldl_cons, List.length_cons]
      omega
  have := this l (0, ⟨#[]⟩)
  unfold swFold
  simpa using this
theorem swFold_snoc (cell : Int) (l : List Dn) (i : Nat) (d : Dn) (h : l[i]? = some d) : swFold cell (l.take (i + 1)) = swStep cell (swFold cell (l.take i)) d := by
  rw [List.take_add_one, h]
  simp [swFold]
set_option maxHeartbeats 4000000 in
theorem swaps_any (w : World) (hm : MemIs w base F g cs log) (hl : log.length ≤ 1000) (cell : Int) :
    Calls Try.prog 16 #[.pointer (some ⟨g, 0, none⟩), .int .i64 cell] w fun e w' => e = .returned (.int .i64 (swFold cell log).1) ∧ Turn Nope w w' := by
  obtain ⟨bc, bm, vl, hm⟩ := hm
  obtain ⟨A, c, rfl, hc⟩ := own_slice hm.row
  have c0 := blk_cell hm.hd 2
  simp at c0
  have HM := Lib.hid hm
  clear hm
  go_enter Try.func16, Try.ntmps16
  go_wp2_with fail
  clear c0
  go_loopg [5, 6, 14] log.length (fun k v5 v6 v14 wr => ∃ (i : Nat) (z : Int) (s : ByteArray), v5 = .int .i64 z ∧ v6 = .string s ∧ v14 = .int .i64 (i : Int) ∧ Hid (k + i = log.length ∧ swFold cell (log.take i) = (z, s)) ∧ Turn Nope w wr)
  case atStart => exact ⟨0, 0, ⟨#[]⟩, rfl, rfl, rfl, ⟨by simp, rfl⟩, Turn.refl _ _⟩
  case round =>
    obtain ⟨i, z, s, rfl, rfl, rfl, hi, ht⟩ := hrel
    have HM2 := Lib.hid (HM.out.nope ht)
    have HT := Lib.hid ht
    clear ht
    by_cases hlt : i < log.length
    · have b1 : decide ((i : Int) < (log.length : Int)) = true := by simp; omega
      have b1n : decide (i < log.length) = true := by simp; omega
      obtain ⟨gl, rfl⟩ := own_form HM2.out.row (by omega)
      obtain ⟨d, hd⟩ : ∃ d, log[i]? = some d := ⟨log[i], by simp [hlt]⟩
      obtain ⟨who, dk, dc, dold, dnw, dis⟩ := d
      have c0 : wr.cell? ⟨gl, i * 4, none⟩ = some (.int .i64 dk) := own_elem HM2.out.row (i * 4 + 0) ((acc_at hd 0 (by omega)).trans rfl)
      have c1 : wr.cell? ⟨gl, i * 4 + 1, none⟩ = some (.int .i64 dc) := own_elem HM2.out.row (i * 4 + 1) ((acc_at hd 1 (by omega)).trans rfl)
      have c2 : wr.cell? ⟨gl, i * 4 + 2, none⟩ = some (.string dold) := own_elem HM2.out.row (i * 4 + 2) ((acc_at hd 2 (by omega)).trans rfl)
      have c3 : wr.cell? ⟨gl, i * 4 + 3, none⟩ = some (.string dnw) := own_elem HM2.out.row (i * 4 + 3) ((acc_at hd 3 (by omega)).trans rfl)
      have hst := swFold_snoc cell log i _ hd
      rw [hi.out.2] at hst
      have hzb := swFold_le cell (log.take i)
      rw [hi.out.2] at hzb
      simp only [List.length_take] at hzb
      have hw1 : wrap64 (z + 1) = z + 1 := IntWalk.wrap64_in _ ⟨by omega, by omega⟩
      have hw2 : wrap64 ((i : Int) + 1) = (i : Int) + 1 := IntWalk.wrap64_in _ ⟨by omega, by omega⟩
      have HD := Lib.hid hd
      have HST := Lib.hid hst
      clear hd hst hzb
      by_cases t1 : dc = cell
      · subst t1
        have t1n : (dc != dc) = false := by simp
        by_cases t2 : dk = 1
        · subst t2
          go_wp2_with fail
          go_roundg (log.length - (i + 1))
          case measure => have := hi.out.1; omega
          case rel => exact ⟨i + 1, z, s, by first | rfl | go_num, rfl, by go_num, ⟨by omega, by rw [HST.out]; simp [swStep]⟩, by repeat (first | exact HT.out | apply Turn.alloc | apply Turn.drewN | apply Turn.drew)⟩
        · have t2b : (dk == 1) = false := by simpa using t2
          by_cases t3 : dk = 2
          · subst t3
            go_wp2_with fail
            go_roundg (log.length - (i + 1))
            case measure => have := hi.out.1; omega
            case rel => exact ⟨i + 1, z, dnw, by first | rfl | go_num, rfl, by go_num, ⟨by omega, by rw [HST.out]; simp [swStep]⟩, by repeat (first | exact HT.out | apply Turn.alloc | apply Turn.drewN | apply Turn.drew)⟩
          · have t3b : (dk == 2) = false := by simpa using t3
            by_cases t4 : s = dold
            · subst t4
              have t4b : (s.toList == s.toList) = true := by simp
              go_wp2_with fail
              go_roundg (log.length - (i + 1))
              case measure => have := hi.out.1; omega
              case rel => exact ⟨i + 1, z + 1, dnw, by first | rfl | go_num, rfl, by go_num, ⟨by omega, by rw [HST.out]; simp [swStep, t2, t3]⟩, by repeat (first | exact HT.out | apply Turn.alloc | apply Turn.drewN | apply Turn.drew)⟩
            · have t4b : (s.toList == dold.toList) = false := list_ne t4
              go_wp2_with fail
              go_roundg (log.length - (i + 1))
              case measure => have := hi.out.1; omega
              case rel => exact ⟨i + 1, z, s, by first | rfl | go_num, rfl, by go_num, ⟨by omega, by rw [HST.out]; simp [swStep, t2, t3, t4]⟩, by repeat (first | exact HT.out | apply Turn.alloc | apply Turn.drewN | apply Turn.drew)⟩
      · have t1b : (dc != cell) = true := by simpa using t1
        go_wp2_with fail
        go_roundg (log.length - (i + 1))
        case measure => have := hi.out.1; omega
        case rel => exact ⟨i + 1, z, s, by first | rfl | go_num, rfl, by go_num, ⟨by omega, by rw [HST.out]; simp [swStep, t1]⟩, by repeat (first | exact HT.out | apply Turn.alloc | apply Turn.drewN | apply Turn.drew)⟩
    · have b1 : decide ((i : Int) < (log.length : Int)) = false := by simp; omega
      have b1n : decide (i < log.length) = false := by simp; omega
      have hz : (swFold cell log).1 = z := by have h1 := hi.out.1; have h2 := hi.out.2; rw [List.take_of_length_le (by omega)] at h2; rw [h2]
      go_wp2_with fail
      go_ret
      exact ⟨by rw [hz]; rfl, by repeat (first | exact HT.out | apply Turn.alloc | apply Turn.drewN | apply Turn.drew)⟩
end Go.Proofs.Ytpcfgigmchndjaa
