/- WheelPlays, as the row's frame asks for it. -/
import Derived.Test.YtdebaoimhijnkaaPlays
set_option linter.unusedVariables false
namespace Go.Proofs.Ytdebaoimhijnkaa
open Go.RowKit
theorem plays_row (A : Option Addr) (n cp : Nat) (id : Int) (w : World) (h : ∃ xs, xs.length = n ∧ OpsAt w A xs ∧ (∀ f ∈ xs, f.Ok) ∧ n ≤ cp ∧ cp ≤ maxLen) (h1 : (Lit.int .u64 id).wf = true) :
    Calls Try.prog 3 #[.slice A n cp, .int .u64 id] w fun e w' => e = .returned (.bool true) ∧ Below w.heap.size w w' := by
  obtain ⟨xs, a1, a2, a3, a4, a5⟩ := h
  exact plays_walk A n cp xs id w a1 a2 a3 h1 a4 a5
end Go.Proofs.Ytdebaoimhijnkaa
