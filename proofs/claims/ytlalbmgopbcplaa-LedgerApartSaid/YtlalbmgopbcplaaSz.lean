/- NOTHING: the sum of all accounts stays nothing. -/
import Derived.Test.YtlalbmgopbcplaaSsu
set_option maxRecDepth 16000
set_option linter.unusedVariables false
namespace Go.Proofs.Ytlalbmgopbcplaa
open Go.RowKit Go.Maps
variable {C : Nm → Int} {K : List Nm} {o : Op4}
theorem sum_congr {C' : Nm → Int} : ∀ L : List Nm, (∀ x ∈ L, C x = C' x) → sumK C L = sumK C' L
  | [], _ => rfl
  | x :: L, h => by rw [sum_cons, sum_cons, h x List.mem_cons_self, sum_congr L fun y hy => h y (List.mem_cons_of_mem _ hy)]
theorem sum_put (h : Book C K) (hs : sumK C K = 0) (hd : doE C K o = 0) : sumK (newC C o) (newK K o) = 0 := by
  obtain ⟨hc, h1, h2, h3⟩ := doE_ok hd
  obtain ⟨c1, c2, c3, c4, c5, c6⟩ := chk_ok hc
  by_cases hk3 : o.k = 3
  · obtain ⟨a1, a2, a3, a4⟩ := h3 hk3
    obtain ⟨b1, b2, b3⟩ := c5 hk3
    have hK : newK K o = K := by unfold newK; rw [if_neg (by omega), if_neg (by omega)]
    have p1 := List.perm_cons_erase a1
    have p2 := List.perm_cons_erase ((List.mem_erase_of_ne (fun e => b1 e.symm)).2 a2 : o.to ∈ K.erase o.nm)
    have p := p1.trans (p2.cons o.nm)
    have hn := (p.nodup_iff).1 h.nd
    have hn1 := List.nodup_cons.1 hn
    have hn2 := List.nodup_cons.1 hn1.2
    rw [hK, sum_perm _ p, sum_cons, sum_cons]
    rw [sum_perm _ p, sum_cons, sum_cons] at hs
    have e : sumK (newC C o) ((K.erase o.nm).erase o.to) = sumK C ((K.erase o.nm).erase o.to) := sum_congr _ fun x hx => by
      rw [newC_move hk3]
      show (if x = o.to then _ else if x = o.nm then _ else _) = _
      rw [if_neg (fun e => absurd hx (by rw [e]; exact hn2.1)), if_neg (fun e => absurd (List.mem_cons_of_mem o.to hx) (by rw [e]; exact hn1.1))]
    have v1 : newC C o o.to = C o.to + o.N := by rw [newC_move hk3]; show (if o.to = o.to then _ else _) = _; rw [if_pos rfl]
    have v2 : newC C o o.nm = C o.nm - o.N := by rw [newC_move hk3]; show (if o.nm = o.to then _ else if o.nm = o.nm then _ else _) = _; rw [if_neg b1, if_pos rfl]
    rw [e, v1, v2]
    omega
  · rw [newC_stay hk3]
    by_cases hk1 : o.k = 1
    · have hK : newK K o = o.nm :: K := by unfold newK; rw [if_pos hk1]
      rw [hK, sum_cons, h.out _ (h1 hk1).1, hs]; rfl
    · have hk2 : o.k = 2 := by omega
      have hK : newK K o = K.erase o.nm := by unfold newK; rw [if_neg hk1, if_pos hk2]
      have p := List.perm_cons_erase (h2 hk2).1
      rw [sum_perm _ p, sum_cons, (h2 hk2).2] at hs
      rw [hK]; omega
theorem sum_did (h : Book C K) (hs : sumK C K = 0) : sumK (doC C K o) (doK C K o) = 0 := by
  unfold doC doK
  by_cases hd : doE C K o = 0
  · rw [if_pos hd, if_pos hd]; exact sum_put h hs hd
  · rw [if_neg hd, if_neg hd]; exact hs
end Go.Proofs.Ytlalbmgopbcplaa
