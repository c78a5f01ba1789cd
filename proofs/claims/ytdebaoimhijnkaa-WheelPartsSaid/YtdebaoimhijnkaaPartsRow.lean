/- WheelParts, as the row's frame asks for it. -/
import Derived.Test.YtdebaoimhijnkaaParts
set_option linter.unusedVariables false
namespace Go.Proofs.Ytdebaoimhijnkaa
open Go.RowKit
theorem parts_row (A : Option Addr) (n cp : Nat) (nw k8 : Int) (w : World) (h : ∃ xs, xs.length = n ∧ Nums .u16 w A xs ∧ (∀ x ∈ xs, (Lit.int .u16 x).wf = true) ∧ n ≤ cp ∧ cp ≤ maxLen) (h1 : (Lit.int .u16 nw).wf = true) (h2 : (Lit.int .u8 k8).wf = true) :
    Calls Try.prog 7 #[.slice A n cp, .int .u16 nw, .int .u8 k8] w fun e w' => e = .returned (.bool true) ∧ Below w.heap.size w w' := by
  obtain ⟨xs, a1, a2, a3, a4, a5⟩ := h
  exact parts_walk A n cp xs nw k8 w a1 a2 a3 a4 a5 h1 h2
end Go.Proofs.Ytdebaoimhijnkaa
