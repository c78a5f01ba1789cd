/- WheelOrder, as the row's frame asks for it. -/
import Derived.Test.YtdebaoimhijnkaaOrder
set_option linter.unusedVariables false
namespace Go.Proofs.Ytdebaoimhijnkaa
open Go.RowKit
theorem order_row (A : Option Addr) (n cp : Nat) (k8 ag : Int) (w : World) (h : ∃ xs, xs.length = n ∧ Nums .u16 w A xs ∧ (∀ x ∈ xs, (Lit.int .u16 x).wf = true) ∧ n ≤ cp ∧ cp ≤ maxLen) (h1 : (Lit.int .u8 k8).wf = true) (h2 : (Lit.int .u16 ag).wf = true) :
    Calls Try.prog 6 #[.slice A n cp, .int .u8 k8, .int .u16 ag] w fun e w' => e = .returned (.bool true) ∧ Below w.heap.size w w' := by
  obtain ⟨xs, a1, a2, a3, a4, a5⟩ := h
  exact order_walk A n cp xs k8 ag w a1 a2 a3 a4 a5 h1 h2
end Go.Proofs.Ytdebaoimhijnkaa
