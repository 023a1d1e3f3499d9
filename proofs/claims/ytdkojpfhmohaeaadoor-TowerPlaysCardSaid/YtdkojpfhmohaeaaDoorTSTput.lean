/- Put into a tower. -/
import Derived.Test.YtdkojpfhmohaeaaDoorTSPutn
set_option linter.unusedVariables false
namespace Go.Proofs.YtdkojpfhmohaeaaDoor.TS
open Go.RowKit Go.Proofs.TowerPlain
variable {w w' w0 : World} {F G : Nat → Prop} {l : Nat}
theorem tput {t : List (Int × ByteArray)} (h : Tw w F l t) (v : Int) (hmax : v ≤ 9223372036854775807) (hT : TabAt w) (hn : t.length ≤ 1000000) (u : ByteArray) :
    Calls Tryd.prog 23 #[.pointer (some ⟨l, 0, none⟩), .int .i64 v, .string u] w fun e w' => e = .returned (.bool (hasT v t)) ∧ ∃ F', Tw w' F' l (insT (v, u) t) ∧ Sub w F F' ∧ Turn F w w' := by
  obtain ⟨hd, ns, f, h, rfl⟩ := h
  have hp := h.parted v
  have hlen : ns.length ≤ 1000000 := by unfold tOf at hn; rwa [List.length_map] at hn
  have hnew : (∀ y ∈ ns.dropWhile (below v), v < y.vs) → Calls Tryd.prog 23 #[.pointer (some ⟨l, 0, none⟩), .int .i64 v, .string u] w fun e w' => e = .returned (.bool (hasT v (tOf ns))) ∧ ∃ F', Tw w' F' l (insT (v, u) (tOf ns)) ∧ Sub w F F' ∧ Turn F w w' := by
    intro hB
    have e1 : hasT v (tOf ns) = false := by rw [hp.eq]; exact hasT_no hp.lo hB
    have e2 : insT (v, u) (tOf ns) = tOf (ns.takeWhile (below v)) ++ (v, u) :: tOf (ns.dropWhile (below v)) := by
      conv => lhs; rw [hp.eq]
      exact insT_no hp.lo hB
    rw [e1, e2]
    exact put_new h hp rfl hB hmax hT hlen u
  cases hB : ns.dropWhile (below v) with
  | nil => exact hnew (by rw [hB]; intro y hy; cases hy)
  | cons x B =>
    rw [hB] at hp
    have h1 := hp.hi x List.mem_cons_self
    have hs := h.sorted
    rw [hp.eq] at hs
    have h2 := (List.pairwise_cons.1 (List.pairwise_append.1 hs).2.1).1
    by_cases hv : x.vs = v
    · refine (put_hit h hp rfl hv u).mono ?_
      rintro e w' ⟨he, h3, h4, h5⟩
      rw [h4]
      exact ⟨he, F, h3, fun k hk => .inl hk, h5⟩
    · refine hnew ?_
      rw [hB]
      intro y hy
      rcases List.mem_cons.1 hy with rfl | hy
      · omega
      · have := h2 y hy; omega
end Go.Proofs.YtdkojpfhmohaeaaDoor.TS
