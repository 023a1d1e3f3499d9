import Derived.Test.YtdojdhpfhjhmfaaLib
namespace Go.Proofs.Ytdojdhpfhjhmfaa
open Go.RowKit
theorem load68 {w : World} {p : Nat} {A : Option Addr} {n c : Nat} (h : w.cell? ⟨p, 0, none⟩ = some (.slice A n c)) : (loadVar 68 ⟨p, 0, none⟩).run Try.prog w = .ok (.slice A n c) w := by
  simp [loadVar, isAgg, run_underlying Try.underlying68, h]
theorem wrapnil (w : World) (p : Nat) (s : String) : (Builtin.ssaWrapNilChk_ #[69] 69 #[.pointer (some ⟨p, 0, none⟩), strVal "", strVal s]).run Try.prog w = .ok (.pointer (some ⟨p, 0, none⟩)) w := by rfl
theorem recv69 {w : World} {p : Nat} {A : Option Addr} {n c : Nat} (h : w.cell? ⟨p, 0, none⟩ = some (.slice A n c)) (s : String) : (receiverAt 69 (.val (.pointer (some ⟨p, 0, none⟩))) false (some s)).run Try.prog w = .ok (.slice A n c) w := by
  unfold receiverAt
  rw [Sem.run_bind, run_underlying Try.underlying69]
  simp only [Result.andThen_ok, Place.get, Sem.run_bind, Sem.run_pure, wrapnil, asAddr, load68 h]
theorem run_method {P : Program} {w : World} {n : Nat} {t : TypeId} {v : Value} {name : String} {K : Nat} {r : Value} (hi : ((P.info? t).bind fun i => (i.methods.find? (·.name == name)).map (fun m => (m.func, m.path))) = some (some (K, false), #[]))
    (hr : ∀ s, (receiverAt t (.val v) false (some s)).run P w = .ok r w) : (method (n + 1) t v name).run P w = .ok (K, r) w := by
  unfold method
  cases hj : P.info? t with
  | none => rw [hj] at hi; cases hi
  | some i =>
    rw [hj] at hi
    simp only [Option.bind_some] at hi
    cases hm : i.methods.find? (·.name == name) with
    | none => rw [hm] at hi; cases hi
    | some m =>
      rw [hm] at hi
      simp only [Option.map_some, Option.some.injEq, Prod.mk.injEq] at hi
      obtain ⟨h1, h2⟩ := hi
      have ht : (typeInfo t).run P w = .ok i w := by simp [typeInfo, hj]
      rw [Sem.run_bind, ht]
      simp only [Result.andThen_ok, hm, h1, h2]
      simp [follow, hr]
theorem meth {w : World} {p : Nat} {A : Option Addr} {n c K : Nat} (name : String) (hk : ((Try.prog.info? 69).bind fun i => (i.methods.find? (·.name == name)).map (fun m => (m.func, m.path))) = some (some (K, false), #[])) (h : w.cell? ⟨p, 0, none⟩ = some (.slice A n c)) : (method 234 69 (.pointer (some ⟨p, 0, none⟩)) name).run Try.prog w = .ok (K, .slice A n c) w := run_method hk (fun s => recv69 h s)
-- the five methods
theorem m_less {w : World} {p : Nat} {A : Option Addr} {n c : Nat} (h : w.cell? ⟨p, 0, none⟩ = some (.slice A n c)) : (method 234 69 (.pointer (some ⟨p, 0, none⟩)) "Less").run Try.prog w = .ok (81, .slice A n c) w := meth "Less" (by kernel_rfl) h
theorem m_len {w : World} {p : Nat} {A : Option Addr} {n c : Nat} (h : w.cell? ⟨p, 0, none⟩ = some (.slice A n c)) : (method 234 69 (.pointer (some ⟨p, 0, none⟩)) "Len").run Try.prog w = .ok (80, .slice A n c) w := meth "Len" (by kernel_rfl) h
theorem m_swap {w : World} {p : Nat} {A : Option Addr} {n c : Nat} (h : w.cell? ⟨p, 0, none⟩ = some (.slice A n c)) : (method 234 69 (.pointer (some ⟨p, 0, none⟩)) "Swap").run Try.prog w = .ok (82, .slice A n c) w := meth "Swap" (by kernel_rfl) h
theorem m_push (w : World) (p : Nat) : (method 234 69 (.pointer (some ⟨p, 0, none⟩)) "Push").run Try.prog w = .ok (84, .pointer (some ⟨p, 0, none⟩)) w := by kernel_rfl
theorem m_pop (w : World) (p : Nat) : (method 234 69 (.pointer (some ⟨p, 0, none⟩)) "Pop").run Try.prog w = .ok (83, .pointer (some ⟨p, 0, none⟩)) w := by kernel_rfl
end Go.Proofs.Ytdojdhpfhjhmfaa
