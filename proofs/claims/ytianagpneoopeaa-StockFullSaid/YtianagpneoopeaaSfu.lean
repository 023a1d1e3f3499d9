/- No more goods than may be: the walk of StockFull. -/
import Derived.Test.YtianagpneoopeaaSaw
import Derived.Laws.Runes
set_option maxRecDepth 16000
set_option linter.unusedVariables false
set_option linter.unusedSimpArgs false
namespace Go.Proofs.Ytianagpneoopeaa
open Go.RowKit Go.Maps
variable {C : Nm → Int} {K : List Nm} {w0 w w' : World} {s mb n : Nat} {D : Dm} {o : Op3}
attribute [local go_sem] lib_max2 lib_min2 lib_max_two lib_min_two
def letter (i : Nat) : Nm := [UInt8.ofNat (65 + i)]
theorem enc_letter : ∀ i : Fin 30, nmOf (Utf8.encode (65 + (i.val : Int))) = letter i.val := by decide +kernel
theorem enc_size : ∀ i : Fin 30, (Utf8.encode (65 + (i.val : Int))).size ≤ 4 := by decide +kernel
theorem letter_inj : ∀ i j : Fin 30, letter i.val = letter j.val → i = j := by decide +kernel
theorem nm_arr (x : Nm) : nmOf ⟨x.toArray⟩ = x := by unfold nmOf; simp
/-- Behind i of the first loop's ops. -/
structure FullW (w0 w : World) (s mb i : Nat) (C : Nm → Int) (K : List Nm) : Prop where
  sh : Sh w0 w s mb i C K
  tn : Turn Nope w0 w
  one : ∀ x, C x = if x ∈ K then 1 else 0
  len : K.length = min i 16
  old : ∀ x ∈ K, ∃ j : Nat, j < i ∧ x = letter j
theorem FullW.nope {i : Nat} (h : FullW w0 w s mb i C K) (ht : Turn Nope w w') : FullW w0 w' s mb i C K := ⟨h.sh.nope ht, h.tn.trans ht, h.one, h.len, h.old⟩
theorem FullW.fresh {i : Nat} (h : FullW w0 w s mb i C K) (hi : i < 30) : C (letter i) = 0 := by
  rw [h.one, if_neg]
  intro hx
  obtain ⟨j, hj, e⟩ := h.old _ hx
  have := letter_inj ⟨i, hi⟩ ⟨j, by omega⟩ e
  injection this with this
  omega
theorem chk_letter (i : Nat) : chk ⟨1, letter i, 1⟩ = 0 := chk_fine (fun e => e.1 rfl) fun e => by
  rcases e with e | e | e | e
  · cases e
  · exact absurd e (by show ¬ 12 < 1; omega)
  · exact absurd e (show ¬ (1 : Int) < 1 by decide)
  · exact absurd e (show ¬ (1099511627776 : Int) < 1 by decide)
theorem FullW.some_ {i : Nat} (h : FullW w0 w s mb i C K) (hi : i < 16) : doE C K ⟨1, letter i, 1⟩ = 0 := by
  unfold doE
  rw [if_neg (by rw [chk_letter]; decide), if_neg (show ¬ (1 : Int) = 2 by decide)]
  simp only [h.fresh (by omega)]
  rw [if_neg (by rw [h.len]; omega)]; rfl
theorem FullW.full_ {i : Nat} (h : FullW w0 w s mb i C K) (hi : 16 ≤ i) (hi2 : i < 30) : doE C K ⟨1, letter i, 1⟩ = 7 := by
  unfold doE
  rw [if_neg (by rw [chk_letter]; decide), if_neg (show ¬ (1 : Int) = 2 by decide)]
  simp only [h.fresh hi2]
  rw [if_pos ⟨trivial, by rw [h.len]; omega⟩]
theorem FullW.did {i : Nat} {w2 : World} (h : FullW w0 w s mb i C K) (hi : i < 30) (hs : Sh w0 w2 s mb (i + 1) (doC C K ⟨1, letter i, 1⟩) (doK C K ⟨1, letter i, 1⟩)) (ht : Turn (At mb) w w2) : ∃ C' K', FullW w0 w2 s mb (i + 1) C' K' := by
  have ht2 : Turn Nope w0 w2 := h.tn.then ht fun k hk => .inr (by rw [show k = mb from hk]; exact h.sh.lom)
  by_cases h16 : i < 16
  · have hd := h.some_ h16
    have h0 := h.fresh hi
    have hK : doK C K ⟨1, letter i, 1⟩ = letter i :: K := by
      unfold doK newK
      rw [if_pos hd, if_neg (show ¬ (1 : Int) = 2 by decide), if_pos h0]
    have hC : doC C K ⟨1, letter i, 1⟩ = newC C ⟨1, letter i, 1⟩ := by unfold doC; rw [if_pos hd]
    rw [hK, hC] at hs
    refine ⟨_, _, hs, ht2, fun x => ?_, ?_, fun x hx => ?_⟩
    · by_cases hx : x = letter i
      · subst hx
        rw [newC_at (o := ⟨1, letter i, 1⟩)]
        simp [h0]
      · rw [newC_far (o := ⟨1, letter i, 1⟩) hx, h.one]
        simp [hx]
    · rw [List.length_cons, h.len]; omega
    · rcases List.mem_cons.1 hx with rfl | hx
      · exact ⟨i, by omega, rfl⟩
      · obtain ⟨j, hj, e⟩ := h.old x hx
        exact ⟨j, by omega, e⟩
  · have hd := h.full_ (by omega) hi
    have hK : doK C K ⟨1, letter i, 1⟩ = K := by unfold doK; rw [if_neg (by rw [hd]; decide)]
    have hC : doC C K ⟨1, letter i, 1⟩ = C := by unfold doC; rw [if_neg (by rw [hd]; decide)]
    rw [hK, hC] at hs
    exact ⟨_, _, hs, ht2, h.one, by rw [h.len]; omega, fun x hx => by obtain ⟨j, hj, e⟩ := h.old x hx; exact ⟨j, by omega, e⟩⟩
/-- In the middle of the second loop. -/
structure Full2 (w0 w : World) (s mb n t : Nat) (v : Value) (C : Nm → Int) (K L : List Nm) : Prop where
  sh : Sh w0 w s mb n C K
  tn : Turn Nope w0 w
  row : w.ownsRow w0.heap.size 9 1 v L.length (encs L)
  val : ∀ x, C x = if x ∈ L.take t then 2 else if x ∈ K then 1 else 0
theorem Full2.nope {t : Nat} {v : Value} {L : List Nm} (h : Full2 w0 w s mb n t v C K L) (ht : Turn Nope w w') : Full2 w0 w' s mb n t v C K L := ⟨h.sh.nope ht, h.tn.trans ht, own_nope h.row ht, h.val⟩
theorem own_lower {b b' e size m : Nat} {v : Value} {xs : List Value} (h : w.ownsRow b e size v m xs) (hb : b' ≤ b) : w.ownsRow b' e size v m xs := by
  refine ⟨h.1, ?_⟩
  rcases h.2 with hn | ⟨g, cap, cur, hv, hg, rest⟩
  · exact .inl hn
  · exact .inr ⟨g, cap, cur, hv, Nat.le_trans hb hg, rest⟩
theorem same_len {L K : List Nm} (hL : L.Nodup) (hK : K.Nodup) (h : ∀ x, x ∈ L ↔ x ∈ K) : L.length = K.length :=
  (List.perm_iff_count.2 fun x => by
    rw [hL.count, hK.count]
    by_cases hx : x ∈ L
    · rw [if_pos hx, if_pos ((h x).1 hx)]
    · rw [if_neg hx, if_neg fun e => hx ((h x).2 e)]).length_eq
theorem not_took {L : List Nm} (hp : L.Nodup) {i : Nat} {x : Nm} (h : L[i]? = some x) : x ∉ L.take i := by
  intro hx
  obtain ⟨k, hk⟩ := List.getElem?_of_mem hx
  have hki : k < i := by
    have := (List.getElem?_eq_some_iff.1 hk).1
    rw [List.length_take] at this; omega
  rw [List.getElem?_take_of_lt hki] at hk
  obtain ⟨h1, e1⟩ := List.getElem?_eq_some_iff.1 hk
  obtain ⟨h2, e2⟩ := List.getElem?_eq_some_iff.1 h
  exact (List.pairwise_iff_getElem.1 hp k i h1 h2 hki) (by rw [e1, e2])
theorem Full2.at_ {t : Nat} {v : Value} {L : List Nm} {x : Nm} (h : Full2 w0 w s mb n t v C K L) (hp : L.Nodup) (hm : ∀ x, x ∈ L ↔ x ∈ K) (hx : L[t]? = some x) : C x = 1 := by
  rw [h.val, if_neg (not_took hp hx), if_pos ((hm x).1 (List.mem_of_getElem? hx))]
theorem Full2.did {t : Nat} {v : Value} {L : List Nm} {x : Nm} {w2 : World} (h : Full2 w0 w s mb n t v C K L) (hp : L.Nodup) (hm : ∀ x, x ∈ L ↔ x ∈ K) (hx : L[t]? = some x) (hs : Sh w0 w2 s mb (n + 1) (doC C K ⟨1, x, 1⟩) (doK C K ⟨1, x, 1⟩)) (ht : Turn (At mb) w w2) :
    doE C K ⟨1, x, 1⟩ = 0 ∧ (doC C K ⟨1, x, 1⟩) x = 2 ∧ Full2 w0 w2 s mb (n + 1) (t + 1) v (doC C K ⟨1, x, 1⟩) K L := by
  have h1 := h.at_ hp hm hx
  have hin : x ∈ K := (hm x).1 (List.mem_of_getElem? hx)
  have hn := h.sh.good.nm x hin
  have hd : doE C K ⟨1, x, 1⟩ = 0 := by
    unfold doE
    have hc : chk ⟨1, x, 1⟩ = 0 := chk_fine (fun e => e.1 rfl) fun e => by
      rcases e with e | e | e | e
      · exact hn.1 e
      · exact absurd hn.2 (by have e : 12 < x.length := e; omega)
      · exact absurd e (show ¬ (1 : Int) < 1 by decide)
      · exact absurd e (show ¬ (1099511627776 : Int) < 1 by decide)
    rw [if_neg (by rw [hc]; decide), if_neg (show ¬ (1 : Int) = 2 by decide)]
    simp only [h1]
    rw [if_neg (by rintro ⟨e, _⟩; cases e), if_neg (by decide)]
  have hC : doC C K ⟨1, x, 1⟩ = newC C ⟨1, x, 1⟩ := by unfold doC; rw [if_pos hd]
  have hK : doK C K ⟨1, x, 1⟩ = K := by
    unfold doK newK
    rw [if_pos hd, if_neg (show ¬ (1 : Int) = 2 by decide), if_neg (by show ¬ C x = 0; omega)]
  have h2 : (doC C K ⟨1, x, 1⟩) x = 2 := by
    rw [hC, newC_at (o := ⟨1, x, 1⟩), if_neg (show ¬ (1 : Int) = 2 by decide)]
    show C x + 1 = 2
    omega
  rw [hK] at hs
  obtain ⟨D, hD⟩ := h.sh.map
  obtain ⟨es, clock, hb⟩ := hD.blk
  refine ⟨hd, h2, hs, h.tn.then ht fun k hk => .inr (by rw [show k = mb from hk]; exact h.sh.lom), own_turn h.row ht (fun k hk e => ?_), fun y => ?_⟩
  · have e : k = mb := e
    subst e
    rcases h.row.2 with ⟨rfl, _⟩ | ⟨g, cap, cur, rfl, _, hh, _⟩
    · simp [Value.ownBlock] at hk
    · have hk : g = k := by simpa [Value.ownBlock] using hk
      subst hk
      rw [hb] at hh; cases hh
  · rw [List.take_add_one, hx]
    by_cases hy : y = x
    · subst hy
      rw [h2, if_pos (by simp)]
    · rw [hC, newC_far (o := ⟨1, x, 1⟩) hy, h.val]
      simp [hy]
set_option maxHeartbeats 8000000 in
theorem full_walk (n0 : Int) (w : World) :
    Calls Try.prog 3 #[.int .i64 n0] w fun e w' => e = .returned (.bool true) ∧ Below w.heap.size w w' := by
  obtain ⟨k, hk⟩ : ∃ k : Nat, (if 30 < (if n0 < 0 then 0 else n0) then 30 else (if n0 < 0 then 0 else n0)) = (k : Int) := ⟨(if 30 < (if n0 < 0 then 0 else n0) then 30 else (if n0 < 0 then 0 else n0)).toNat, by split <;> split <;> omega⟩
  have hk30 : k ≤ 30 := by
    by_cases h1 : n0 < 0
    · rw [if_pos h1] at hk; split at hk <;> omega
    · rw [if_neg h1] at hk; split at hk <;> omega
  obtain ⟨m1, hm1⟩ : ∃ m1, (if n0 < 0 then 0 else n0) = m1 := ⟨_, rfl⟩
  rw [hm1] at hk
  have HK := Lib.hid hk30
  go_enter Try.func3, Try.ntmps3
  go_wp2_with fail
  refine (awake_any _).mono ?_
  rintro e w1 ⟨rfl, ht⟩
  have HT1 := Lib.hid ht
  clear ht
  go_wp2_with fail
  refine (new_any w w1 HT1.out).mono ?_
  rintro e w2 ⟨s, mb, rfl, h, h1, h2, ht⟩
  have HW0 : Hid (FullW w w2 s mb 0 (fun _ => 0) []) := ⟨h, HT1.out.trans ht, fun x => by simp, rfl, fun x hx => by cases hx⟩
  clear h h1 h2 ht hk hm1 hk30
  go_wp2_with fail
  go_loopg [15] k (fun kk v15 wr => ∃ (i : Nat) (C : Nm → Int) (K : List Nm), v15 = .int .i64 (i : Int) ∧ Hid (kk + i = k) ∧ Hid (FullW w wr s mb i C K))
  case atStart => exact ⟨0, _, _, rfl, rfl, HW0.out⟩
  case round =>
    obtain ⟨i, C, K, rfl, hk, hW⟩ := hrel
    clear HW0
    by_cases hlt : i < k
    · have b1 : decide ((i : Int) < (k : Int)) = true := by simp; omega
      have b1n : decide (i < k) = true := by simp; omega
      have hi : i < 30 := by have := HK.out; omega
      have hw : wrap64 ((i : Int) + 1) = (i : Int) + 1 := IntWalk.wrap64_in _ ⟨by omega, by omega⟩
      have HWR := Lib.hid hw
      have HLT := Lib.hid hlt
      have hw1 : wrap64 (65 + (i : Int)) = 65 + (i : Int) := IntWalk.wrap64_in _ ⟨by omega, by omega⟩
      have hw2 : IntKind.i64.wrap (65 + (i : Int)) = 65 + (i : Int) := IntWalk.i64_in _ ⟨by omega, by omega⟩
      have hw3 : IntKind.i32.wrap (65 + (i : Int)) = 65 + (i : Int) := by unfold IntKind.wrap; simp [IntKind.bits, IntKind.signed]; omega
      have HE : Hid (nmOf (Utf8.encode (65 + (i : Int))) = letter i) := enc_letter ⟨i, hi⟩
      have HES : Hid ((Utf8.encode (65 + (i : Int))).size ≤ 4) := enc_size ⟨i, hi⟩
      have HI := Lib.hid hi
      clear hw hlt hi
      go_wp2_with fail
      clear hw1 hw2 hw3
      obtain ⟨x, hx⟩ : ∃ x, Utf8.encode (65 + (i : Int)) = x := ⟨_, rfl⟩
      have HX : Hid (nmOf x = letter i ∧ x.size ≤ maxLen) := by
        rw [← hx]; exact ⟨HE.out, Nat.le_trans HES.out (by decide)⟩
      rw [hx]
      clear hx HE HES
      refine (do_any hW.out.sh (by have := HI.out; omega) 1 1 x HX.out.2).mono ?_
      rintro e w3 ⟨rfl, h, ht⟩
      rw [HX.out.1] at h ⊢
      obtain ⟨C', K', hP⟩ := hW.out.did HI.out h ht
      have HP := Lib.hid hP
      clear hP h ht
      by_cases h16 : i < 16
      · rw [hW.out.some_ h16]
        have c1 : decide ((i : Int) < 16) = true := by simp; omega
        have c1n : decide (i < 16) = true := by simp; omega
        clear h16
        go_wp2_with fail
        have hw := HWR.out
        go_wp2_with fail
        go_roundg (k - (i + 1))
        case measure => have := hk.out; have := HLT.out; omega
        case rel => exact ⟨i + 1, C', K', by go_num, by have := hk.out; have := HLT.out; show _ = _; omega, HP.out⟩
      · rw [hW.out.full_ (by omega) HI.out]
        have c1 : decide ((i : Int) < 16) = false := by simp; omega
        have c1n : decide (i < 16) = false := by simp; omega
        clear h16
        go_wp2_with fail
        have hw := HWR.out
        go_wp2_with fail
        go_roundg (k - (i + 1))
        case measure => have := hk.out; have := HLT.out; omega
        case rel => exact ⟨i + 1, C', K', by go_num, by have := hk.out; have := HLT.out; show _ = _; omega, HP.out⟩
    · have b1 : decide ((i : Int) < (k : Int)) = false := by simp; omega
      have b1n : decide (i < k) = false := by simp; omega
      obtain rfl : i = k := by have := hk.out; omega
      clear hlt
      go_wp2_with fail
      refine (names_any hW.out.sh).mono ?_
      rintro e w3 ⟨v, rfl, hrow, ht⟩
      obtain ⟨L, hL⟩ : ∃ L, srt K = L := ⟨_, rfl⟩
      have HL : Hid (L.Nodup ∧ (∀ x, x ∈ L ↔ x ∈ K) ∧ L.length = min i 16) := by
        rw [← hL]
        exact ⟨(List.mergeSort_perm K _).nodup_iff.2 hW.out.sh.good.nd, srt_mem K, by rw [srt_length]; exact hW.out.len⟩
      rw [hL] at hrow
      obtain ⟨A, cp, rfl, _⟩ := own_slice hrow
      have HW1 : Hid (Full2 w w3 s mb i 0 (.slice A L.length cp) C K L) := ⟨hW.out.sh.nope ht, hW.out.tn.trans ht, own_lower hrow hW.out.tn.size, fun x => by rw [hW.out.one]; simp⟩
      clear hrow ht hW hL
      go_wp2_with fail
      go_loopg [42] L.length (fun kk v42 wr => ∃ (t : Nat) (C : Nm → Int), v42 = .int .i64 (t : Int) ∧ Hid (kk + t = L.length) ∧ Hid (Full2 w wr s mb (i + t) t (.slice A L.length cp) C K L))
      case atStart => exact ⟨0, _, rfl, rfl, HW1.out⟩
      case round =>
        obtain ⟨t, C, rfl, hk, hW⟩ := hrel
        clear HW1
        by_cases hlt : t < L.length
        · have b1 : decide ((t : Int) < (L.length : Int)) = true := by simp; omega
          have b1n : decide (t < L.length) = true := by simp; omega
          have i0 : (0 : Int) ≤ (t : Int) := by omega
          have i1 : (t : Int) < (L.length : Int) := by omega
          have hw : wrap64 ((t : Int) + 1) = (t : Int) + 1 := IntWalk.wrap64_in _ ⟨by omega, by have := HL.out.2.2; omega⟩
          have HWR := Lib.hid hw
          have HLT := Lib.hid hlt
          obtain ⟨x, hx⟩ : ∃ x, L[t]? = some x := ⟨_, List.getElem?_eq_getElem hlt⟩
          obtain ⟨g, c, ev, -⟩ := World.ownsRow.form hW.out.row (by omega)
          injection ev with ev1 ev2 ev3
          subst ev1
          clear ev2 ev3
          have c0 := own_elem hW.out.row t (u := encStr x) (by simp [encs, hx])
          have c0 : (wr.cell? ⟨g, t, none⟩) = some (.string ⟨x.toArray⟩) := c0
          have HX := Lib.hid hx
          have HXS : Hid (x.length ≤ 12) := (hW.out.sh.good.nm x ((HL.out.2.1 x).1 (List.mem_of_getElem? hx))).2
          clear hw hlt hx
          go_wp2_with fail
          clear c0
          refine (do_any hW.out.sh (by have := HL.out.2.2; have := HLT.out; have := HK.out; omega) 1 1 ⟨x.toArray⟩ (by show x.toArray.size ≤ maxLen; have := HXS.out; simp; unfold maxLen; omega)).mono ?_
          rintro e w4 ⟨rfl, h, ht⟩
          rw [nm_arr] at h ⊢
          obtain ⟨hd, h2, hP⟩ := hW.out.did HL.out.1 HL.out.2.1 HX.out h ht
          rw [hd]
          have HP := Lib.hid hP
          have H2 := Lib.hid h2
          clear h hP h2 hd ht
          go_wp2_with fail
          refine (count_any HP.out.sh (x := ⟨x.toArray⟩) (by show x.toArray.size ≤ maxLen; have := HXS.out; simp; unfold maxLen; omega)).mono ?_
          rintro e w5 ⟨rfl, ht⟩
          rw [nm_arr, H2.out]
          have HP5 := Lib.hid (HP.out.nope ht)
          clear ht
          go_wp2_with fail
          have hw := HWR.out
          go_wp2_with fail
          go_roundg (L.length - (t + 1))
          case measure => have := hk.out; have := HLT.out; omega
          case rel => exact ⟨t + 1, _, by go_num, by have := hk.out; have := HLT.out; show _ = _; omega, HP5.out⟩
        · have b1 : decide ((t : Int) < (L.length : Int)) = false := by simp; omega
          have b1n : decide (t < L.length) = false := by simp; omega
          clear hlt
          have hmin : (if (16 : Int) < (i : Int) then (16 : Int) else (i : Int)) = ((min i 16 : Nat) : Int) := by split <;> omega
          go_wp2_with fail
          refine (names_any hW.out.sh).mono ?_
          rintro e w4 ⟨v, rfl, hrow, ht⟩
          have hlen : (srt K).length = min i 16 := by rw [srt_length, ← HL.out.2.2]; exact (same_len HL.out.1 hW.out.sh.good.nd HL.out.2.1).symm
          rw [hlen] at hrow
          obtain ⟨A9, n9, rfl, _⟩ := own_slice hrow
          have HT9 := Lib.hid (hW.out.tn.trans ht)
          clear hrow ht hlen
          go_wp2_with fail
          go_ret
          exact ⟨by simp [hmin], HT9.out.nopeBelow⟩
end Go.Proofs.Ytianagpneoopeaa
