import Derived.Test.YtpcfgigmchndjaaSwap
namespace Go.Proofs.Ytpcfgigmchndjaa
open Go.RowKit Go.Maps
/-- Was the access done, and what the cells hold behind it. -/
def doIs (k : Int) (s old : ByteArray) : Bool := decide (k ≠ 3 ∨ s = old)
def doCs (cs : List ByteArray) (j : Nat) (k : Int) (s old nw : ByteArray) : List ByteArray := if k ≠ 1 ∧ doIs k s old = true then cs.set j nw else cs
variable {w w' : World} {base : Nat} {F : Nat → Prop} {g : Nat} {cs : List ByteArray} {log : List Dn}
theorem doCs_length (j : Nat) (k : Int) (s old nw : ByteArray) : (doCs cs j k s old nw).length = cs.length := by
  unfold doCs; split <;> simp
theorem do_ok (w : World) (hm : MemIs w base F g cs log) (hl : log.length ≤ 1000) (who k : Int) (hk : k = 1 ∨ k = 2 ∨ k = 3) (hw : (Lit.int .i64 who).wf = true) (j : Nat) (s : ByteArray) (hj : cs[j]? = some s) (old nw : ByteArray) :
    Calls Try.prog 10 #[.pointer (some ⟨g, 0, none⟩), .int .i64 who, accV k (j : Int) old nw] w fun e w' => e = .returned (.tuple #[.string s, .bool (doIs k s old), .int .i64 0]) ∧
      (∃ F' : Nat → Prop, MemIs w' base F' g (doCs cs j k s old nw) (log ++ [⟨who, k, j, old, nw, doIs k s old⟩]) ∧ ∀ k, F' k → F k ∨ w.heap.size ≤ k) ∧ Turn F w w' := by
  rcases hk with rfl | rfl | rfl
  · exact (do_read w hm hl who hw j s hj old nw).mono fun e w' h => by simpa [doIs, doCs] using h
  · exact (do_write w hm hl who hw j s hj old nw).mono fun e w' h => by simpa [doIs, doCs] using h
  · by_cases ho : s = old
    · exact (do_swap w hm hl who hw j s hj old nw ho).mono fun e w' h => by simpa [doIs, doCs, ho] using h
    · exact (do_miss w hm hl who hw j s hj old nw ho).mono fun e w' h => by simpa [doIs, doCs, ho] using h
end Go.Proofs.Ytpcfgigmchndjaa
