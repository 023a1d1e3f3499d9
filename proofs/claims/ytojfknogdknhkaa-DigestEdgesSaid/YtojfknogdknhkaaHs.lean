/- A hash as an object: what came, and its sum. -/
import Derived.Test.YtojfknogdknhkaaRefd
set_option maxRecDepth 16000
set_option linter.unusedVariables false
set_option linter.unusedSimpArgs false
namespace Go.Proofs.Ytojfknogdknhkaa
open Go.RowKit
variable {w w' : World}
theorem feed_add : ∀ (a b : Nat) (s : St) (l : List UInt8), feed (a + b) s l = feed b (feed a s l).1 (feed a s l).2
  | 0, b, s, l => by rw [Nat.zero_add]; rfl
  | a + 1, b, s, l => by
    rw [show a + 1 + b = (a + b) + 1 by omega]
    exact feed_add a b (mixP s l) (l.drop 64)
theorem mixP_app (s : St) (l m : List UInt8) (h : 64 ≤ l.length) : mixP s (l ++ m) = mixP s l := by
  rw [← mixP_take s (l ++ m), ← mixP_take s l, List.take_append_of_le_length h]
theorem feed_app : ∀ (k : Nat) (s : St) (l m : List UInt8), 64 * k ≤ l.length → feed k s (l ++ m) = ((feed k s l).1, (feed k s l).2 ++ m)
  | 0, s, l, m, _ => rfl
  | k + 1, s, l, m, h => by
    show feed k (mixP s (l ++ m)) ((l ++ m).drop 64) = _
    rw [mixP_app s l m (by omega), List.drop_append_of_le_length (by omega), feed_app k _ _ _ (by rw [List.length_drop]; omega)]
    rfl
theorem feed_left (s : St) (l : List UInt8) : (feed (l.length / 64) s l).2.length = l.length % 64 := by
  rw [feed_snd, List.length_drop]; omega
/-- What came first, and what comes behind it. -/
theorem feed_more (s : St) (l m : List UInt8) : feed ((l ++ m).length / 64) s (l ++ m) =
    feed (((feed (l.length / 64) s l).2 ++ m).length / 64) (feed (l.length / 64) s l).1 ((feed (l.length / 64) s l).2 ++ m) := by
  have h1 : (l ++ m).length / 64 = l.length / 64 + ((feed (l.length / 64) s l).2 ++ m).length / 64 := by
    rw [List.length_append, List.length_append, feed_left]; omega
  rw [h1, feed_add, feed_app _ _ _ _ (by omega)]
structure HashIs (w : World) (p : Nat) (L : List UInt8) : Prop where
  ex : ∃ b : ByteArray, w.heap[p]? = some (.cells (hsA (feed (L.length / 64) beginSt L).1 b (L.length : Int)) 55 (0, 0)) ∧ b.data.toList = (feed (L.length / 64) beginSt L).2
theorem HashIs.turn {p : Nat} {L : List UInt8} {S : Nat → Prop} (h : HashIs w p L) (ht : Turn S w w') (hn : ¬ S p) : HashIs w' p L := by
  obtain ⟨b, h1, h2⟩ := h.ex
  exact ⟨b, ht.blk h1 hn, h2⟩
theorem HashIs.lt {p : Nat} {L : List UInt8} (h : HashIs w p L) : p < w.heap.size := by
  obtain ⟨b, h1, h2⟩ := h.ex
  exact blk_lt h1
theorem new_h (w : World) : Calls Try.prog 12 #[] w fun e w' => ∃ p, e = .returned (.pointer (some ⟨p, 0, none⟩)) ∧ w.heap.size ≤ p ∧ HashIs w' p [] ∧ Turn Nope w w' := by
  refine (new_any w).mono ?_
  rintro e w1 ⟨p, rfl, hp, hb, ht⟩
  exact ⟨p, rfl, hp, ⟨⟨#[]⟩, hb, rfl⟩, ht⟩
theorem add_h (p : Nat) (L : List UInt8) (hL : L.length ≤ 1000000) (x : ByteArray) (hx : x.size ≤ 1048576) (w : World) (h : HashIs w p L) :
    Calls Try.prog 13 #[.pointer (some ⟨p, 0, none⟩), .string x] w fun e w' => e = .returned (.tuple #[]) ∧ HashIs w' p (L ++ x.data.toList) ∧ Turn (At p) w w' := by
  obtain ⟨b, hb, hl⟩ := h.ex
  have hbs : b.size = L.length % 64 := by
    have h1 : b.data.toList.length = b.size := rfl
    rw [← h1, hl, feed_left]
  refine (add_any p _ (feed_w _ _ _ beginSt_w) b L.length (by omega) x hx (by omega) w hb).mono ?_
  rintro e w1 ⟨b', rfl, h1, h2, h3, h4⟩
  have hxl : x.data.toList.length = x.size := rfl
  have he : (b ++ x).data.toList = (feed (L.length / 64) beginSt L).2 ++ x.data.toList := by rw [ByteArray.data_append, Array.toList_append, hl]
  have hz : (b ++ x).size = ((feed (L.length / 64) beginSt L).2 ++ x.data.toList).length := by rw [← he]; rfl
  rw [hz, he, ← feed_more] at h1 h2
  refine ⟨rfl, ⟨b', ?_, h2⟩, h4⟩
  rw [show ((L ++ x.data.toList).length : Int) = ((L.length + x.size : Nat) : Int) by rw [List.length_append, hxl]]
  exact h1
theorem pad_eq (L : List UInt8) (b : ByteArray) (hl : b.data.toList = (feed (L.length / 64) beginSt L).2) :
    (feed ((padL b L.length).length / 64) (feed (L.length / 64) beginSt L).1 (padL b L.length)).1 = sumP L := by
  have hbs : b.size = L.length % 64 := by
    have h1 : b.data.toList.length = b.size := rfl
    rw [← h1, hl, feed_left]
  have h1 : padL b L.length = (feed (L.length / 64) beginSt L).2 ++ ([128] ++ List.replicate (padR L.length) 0 ++ be8 (L.length * 8)) := by
    unfold padL padR
    rw [hl, hbs]
    simp only [List.append_assoc]
  have h2 : longL L = L ++ ([128] ++ List.replicate (padR L.length) 0 ++ be8 (L.length * 8)) := by
    unfold longL
    simp only [List.append_assoc]
  unfold sumP
  rw [h1, h2, ← feed_more]
theorem sum_h (p : Nat) (L : List UInt8) (hL : L.length ≤ 1000000) (w : World) (h : HashIs w p L) :
    Calls Try.prog 14 #[.pointer (some ⟨p, 0, none⟩)] w fun e w' => e = .returned (.agg (outA (sumP L))) ∧ Turn Nope w w' := by
  obtain ⟨b, hb, hl⟩ := h.ex
  have hbs : b.size = L.length % 64 := by
    have h1 : b.data.toList.length = b.size := rfl
    rw [← h1, hl, feed_left]
  have h1 := sum_any p _ (feed_w _ _ _ beginSt_w) b L.length (by omega) (by omega) w hb (blk_lt hb)
  rw [pad_eq L b hl] at h1
  exact h1
set_option maxHeartbeats 4000000 in
theorem of_any (x : ByteArray) (hx : x.size ≤ 1000000) (w : World) :
    Calls Try.prog 8 #[.string x] w fun e w' => e = .returned (.agg (outA (sumP x.data.toList))) ∧ Turn Nope w w' := by
  obtain ⟨O, hO⟩ : ∃ O, outA (sumP x.data.toList) = O := ⟨_, rfl⟩
  have hos : O.size = 32 := by rw [← hO]; exact outA_size _
  have hoo : ∀ v ∈ O.toList, v.oneCell' = true := by rw [← hO]; exact outA_one _
  rw [hO]
  go_enter Try.func8, Try.ntmps8
  go_wp2_with fail
  have hA := blk_new w (.cells Z32 24)
  have HA : Hid ((w.alloc (.cells Z32 24)).heap[w.heap.size]? = some (.cells Z32 24 (0, 0)) ∧ Turn Nope w (w.alloc (.cells Z32 24))) := ⟨hA, (Turn.refl _ _).alloc _⟩
  refine (?_ : Calls _ _ _ (w.alloc (.cells Z32 24)) _)
  generalize w.alloc (.cells Z32 24) = w0 at HA ⊢
  clear hA
  refine (new_h _).mono ?_
  rintro e w1 ⟨p, rfl, hp, hh, ht⟩
  have H1 := Lib.hid (And.intro hp (And.intro hh ht))
  clear hp hh ht
  go_wp2_with fail
  refine (add_h p [] (by decide) x (by omega) _ H1.out.2.1).mono ?_
  rintro e w2 ⟨rfl, hh, ht⟩
  have H2 := Lib.hid (And.intro hh ht)
  clear hh ht
  go_wp2_with fail
  have hsz : ([] ++ x.data.toList).length ≤ 1000000 := by
    have h1 : x.data.toList.length = x.size := rfl
    rw [List.nil_append, h1]; exact hx
  refine (sum_h p _ hsz _ H2.out.1).mono ?_
  rw [List.nil_append, hO]
  rintro e w3 ⟨rfl, ht⟩
  have hne : w.heap.size ≠ p := by
    have := blk_lt HA.out.1; have := H1.out.1; omega
  have hz : w3.heap[w.heap.size]? = some (.cells Z32 24 (0, 0)) := ht.blk (H2.out.2.blk (H1.out.2.2.blk HA.out.1 fun h => h) (fun h => hne h)) fun h => h
  have HT : Hid (Turn Nope w w3) := ((HA.out.2.trans H1.out.2.2).then H2.out.2 (fun i hi => .inr (by have := HA.out.2.size; have := H1.out.1; have hi : i = p := hi; omega))).trans ht
  have H3 := Lib.hid hz
  have HOO := Lib.hid hoo
  clear hz ht hoo hne hsz hO
  go_wp2_with (refine wpList_storeSum rfl _ _ rfl w.heap.size Z32 O rfl rfl H3.out rfl hos HOO.out ?_)
  have hb0 := setRow_heap w3 w.heap.size Z32 O 24 (0, 0) H3.out
  refine bodyPost_ret_by (results_c rfl _ _ w.heap.size 24 O (0, 0) _ rfl hb0 Try.underlying24 rfl (by rw [hos]; exact Try.infoSum)) rfl ⟨rfl, ?_⟩
  exact HT.out.setRow (.inr (Nat.le_refl _)) O
end Go.Proofs.Ytojfknogdknhkaa
