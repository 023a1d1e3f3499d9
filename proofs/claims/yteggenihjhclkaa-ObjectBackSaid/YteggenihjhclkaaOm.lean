/- An object's methods: which function each is, and what it takes. -/
import Derived.Test.YteggenihjhclkaaLib
set_option maxRecDepth 16000
namespace Go.Proofs.Yteggenihjhclkaa
open Go.RowKit
theorem m_doc_do (w : World) (g : Nat) : (method 266 71 (.agg #[.pointer (some ⟨g, 0, none⟩)]) "Do").run Try.prog w = .ok (61, .agg #[.pointer (some ⟨g, 0, none⟩)]) w := by kernel_rfl
theorem m_doc_save (w : World) (g : Nat) : (method 266 71 (.agg #[.pointer (some ⟨g, 0, none⟩)]) "Save").run Try.prog w = .ok (56, .pointer (some ⟨g, 0, none⟩)) w := by kernel_rfl
end Go.Proofs.Yteggenihjhclkaa
