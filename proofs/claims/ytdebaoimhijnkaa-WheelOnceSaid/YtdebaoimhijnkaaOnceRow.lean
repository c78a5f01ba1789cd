/- WheelOnce, as the row's frame asks for it. -/
import Derived.Test.YtdebaoimhijnkaaOnce
set_option linter.unusedVariables false
namespace Go.Proofs.Ytdebaoimhijnkaa
open Go.RowKit
theorem once_row (A0 : Option Addr) (n0 c0 : Nat) (A1 : Option Addr) (n1 c1 : Nat) (A2 : Option Addr) (n2 c2 : Nat) (w : World)
    (h0 : ∃ xs, xs.length = n0 ∧ Nums .u64 w A0 xs ∧ (∀ x ∈ xs, (Lit.int .u64 x).wf = true) ∧ n0 ≤ c0 ∧ c0 ≤ maxLen)
    (h1 : ∃ xs, xs.length = n1 ∧ Nums .u64 w A1 xs ∧ (∀ x ∈ xs, (Lit.int .u64 x).wf = true) ∧ n1 ≤ c1 ∧ c1 ≤ maxLen)
    (h2 : ∃ xs, xs.length = n2 ∧ Nums .u16 w A2 xs ∧ (∀ x ∈ xs, (Lit.int .u16 x).wf = true) ∧ n2 ≤ c2 ∧ c2 ≤ maxLen) :
    Calls Try.prog 5 #[.slice A0 n0 c0, .slice A1 n1 c1, .slice A2 n2 c2] w fun e w' => e = .returned (.bool true) ∧ Below w.heap.size w w' := by
  obtain ⟨I, hI⟩ := h0
  obtain ⟨T, hT⟩ := h1
  obtain ⟨S, hS⟩ := h2
  exact once_walk A0 A1 A2 n0 c0 n1 c1 n2 c2 I T S w hI hT hS
end Go.Proofs.Ytdebaoimhijnkaa
