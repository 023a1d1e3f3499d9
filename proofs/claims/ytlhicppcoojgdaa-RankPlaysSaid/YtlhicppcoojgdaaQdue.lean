import Derived.Test.YtlhicppcoojgdaaQueue
set_option linter.unusedVariables false
namespace Go.Proofs.Ytlhicppcoojgdaa
open Go.RowKit Go.Proofs.HeapPlain
variable {w w' : World} {F G : Nat → Prop} {q n : Nat} {S S' : List It}
theorem Try.info3 : (Try.prog.info? 3).map (fun i => (i.zero, i.size, i.bytes)) = some (some (.int .i64 0), 1, 8) := by kernel_rfl
def isDue (tick : Int) (s : It) : Bool := decide (s.tick ≤ tick)
theorem due_split {tick : Int} {D R : List It} (hD : ∀ s ∈ D, isDue tick s = true) (hR : ∀ s R', R = s :: R' → isDue tick s = false) : (D ++ R).takeWhile (isDue tick) = D ∧ (D ++ R).dropWhile (isDue tick) = R := by
  induction D with
  | nil =>
    cases R with
    | nil => exact ⟨rfl, rfl⟩
    | cons s R' => simp [hR s R' rfl]
  | cons d D ih =>
    have h1 := hD d List.mem_cons_self
    have := ih fun s hs => hD s (List.mem_cons_of_mem _ hs)
    simp [h1, this]
def whoV (D : List It) : List Value := D.map fun s => Value.int .i64 s.who
set_option maxHeartbeats 4000000 in
theorem qdue (h : Qs w F q S n) (hl : S.length ≤ 1000) (tick : Int) :
    Calls Try.prog 13 #[.pointer (some ⟨q, 0, none⟩), .int .i64 tick] w fun e w' => ∃ v, e = .returned v ∧ w'.ownsRow w.heap.size 3 1 v (S.takeWhile (isDue tick)).length (whoV (S.takeWhile (isDue tick))) ∧ (∃ F', Qs w' F' q (S.dropWhile (isDue tick)) n ∧ ∀ k, F' k → F k) ∧ Turn F w w' := by
  have HA := Lib.hid h
  clear h
  obtain ⟨i3, hi3, hz3, hs3, hb3⟩ := info_parts Try.info3
  have I3 := Lib.hid (And.intro hi3 (And.intro hz3 (And.intro hs3 hb3)))
  clear hi3 hz3 hs3 hb3
  go_enter Try.func13, Try.ntmps13
  go_wp2_with fail
  go_loopg [5] S.length (fun m v5 wr => ∃ (D S' : List It) (F' : Nat → Prop), Hid (S'.length ≤ m ∧ S = D ++ S' ∧ (∀ s ∈ D, isDue tick s = true) ∧ wr.ownsRow w.heap.size 3 1 v5 D.length (whoV D) ∧ Qs wr F' q S' n ∧ (∀ x, F' x → F x) ∧ Turn F w wr))
  case atStart => exact ⟨[], S, F, ⟨Nat.le_refl _, rfl, (fun _ h => by cases h), ⟨rfl, .inl ⟨rfl, rfl⟩⟩, HA.out, fun _ h => h, Turn.refl _ _⟩⟩
  case round =>
    obtain ⟨D, S', F', hi⟩ := hrel
    clear HA
    have hSl : Hid (D.length + S'.length = S.length) := by have := congrArg List.length hi.out.2.1; simp at this; show _ = _; omega
    cases S' with
    | nil =>
      have HX := Lib.hid (due_split hi.out.2.2.1 (R := []) (fun s R' e => by cases e))
      go_wp2_with (go_at_call 14; refine (qfirst_none hi.out.2.2.2.2.1).mono ?_; rintro e w' ⟨rfl, rfl⟩)
      go_ret
      rw [hi.out.2.1, HX.out.1, HX.out.2]
      exact ⟨_, rfl, hi.out.2.2.2.1, ⟨F', hi.out.2.2.2.2.1, hi.out.2.2.2.2.2.1⟩, hi.out.2.2.2.2.2.2⟩
    | cons s R =>
      have hRl : R.length ≤ 999 := by have := hSl.out; simp at this; omega
      by_cases hd : s.tick ≤ tick
      · have t1 : decide (s.tick > tick) = false := by simp; omega
        have t1' : decide (tick < s.tick) = false := by simp; omega
        go_wp2_with (first
          | (go_at_call 14; refine (qfirst_some hi.out.2.2.2.2.1 (by omega)).mono ?_; rintro e w1 ⟨rfl, ht1⟩; have HQ1 := Lib.hid (hi.out.2.2.2.2.1.nope ht1); have HR1 := Lib.hid (own_nope hi.out.2.2.2.1 ht1); have HT1 := Lib.hid (hi.out.2.2.2.2.2.2.trans ht1.ofNope); clear ht1)
          | (go_at_call 11; refine (qtake_some HQ1.out (by omega)).mono ?_; rintro e w2 ⟨rfl, ⟨F2, hq2, hf2⟩, ht2⟩; have HQ2 := Lib.hid hq2; have HF2 := Lib.hid hf2; have HR2 := Lib.hid (own_turn HR1.out ht2 (HQ1.out.row HR1.out (by decide) (by decide) (by decide))); have HT2 := Lib.hid (HT1.out.trans (ht2.mono hi.out.2.2.2.2.2.1)); clear hq2 hf2 ht2)
          | (at_builtin; refine wpList_append_lies _ rfl _ _ _ rfl w.heap.size 3 i3 _ 1 8 Try.underlying22 I3.out.1 I3.out.2.1 I3.out.2.2.1 I3.out.2.2.2 rfl (by omega) u5 D.length (whoV D) rfl (own_nope HR2.out ((Turn.refl _ _).alloc _)) ⟨w2.heap.size, 0, none⟩ 1 1 [.int .i64 s.who] rfl rfl (news_new w2 _ 3) (by intro u hu; simp at hu; subst hu; rfl) (by omega) (by show D.length + 1 ≤ 9223372036854775807; have := hSl.out; omega) (by have := hSl.out; omega) (Nat.le_trans HT2.out.size (by simp)) (w2.heap.size + 1) (by simp) ?_; intro g1 cap1 w3 hown hgr hat hlt; have HO3 := Lib.hid hown; have HG3 := Lib.hid hgr; clear hown hgr hat hlt))
        go_roundg R.length
        case measure => have := hi.out.1; simp at this; omega
        case rel =>
          refine ⟨D ++ [s], R, F2, ⟨Nat.le_refl _, by rw [hi.out.2.1]; simp, fun x hx => ?_, ?_, ?_, fun x hx => hi.out.2.2.2.2.2.1 x (HF2.out x hx), ?_⟩⟩
          · rcases List.mem_append.1 hx with hx | hx
            · exact hi.out.2.2.1 x hx
            · simp at hx; subst hx; simpa [isDue] using hd
          · have h1 := HO3.out
            unfold whoV at *
            rw [List.length_append, List.map_append]
            exact h1
          · have h2 : Turn (OfRow u5) w2 w3 := ((Turn.refl _ _).alloc _).grown HG3.out fun k hk => .inl hk
            exact HQ2.out.keep h2 fun k hk hk' => HQ2.out.row HR2.out (by decide) (by decide) (by decide) k hk' hk
          · exact (HT2.out.alloc _).grown HG3.out fun k hk => .inr (own_base HR2.out k hk)
      · have t1 : decide (s.tick > tick) = true := by simp; omega
        have t1' : decide (tick < s.tick) = true := by simp; omega
        have HX := Lib.hid (due_split hi.out.2.2.1 (R := s :: R) (fun s' R' e => by injection e with e1 _; subst e1; simpa [isDue] using hd))
        go_wp2_with (first
          | (go_at_call 14; refine (qfirst_some hi.out.2.2.2.2.1 (by omega)).mono ?_; rintro e w1 ⟨rfl, ht1⟩; have HQ1 := Lib.hid (hi.out.2.2.2.2.1.nope ht1); have HR1 := Lib.hid (own_nope hi.out.2.2.2.1 ht1); have HT1 := Lib.hid (hi.out.2.2.2.2.2.2.trans ht1.ofNope); clear ht1))
        go_ret
        rw [hi.out.2.1, HX.out.1, HX.out.2]
        exact ⟨_, rfl, HR1.out, ⟨F', HQ1.out, hi.out.2.2.2.2.2.1⟩, HT1.out⟩
end Go.Proofs.Ytlhicppcoojgdaa
