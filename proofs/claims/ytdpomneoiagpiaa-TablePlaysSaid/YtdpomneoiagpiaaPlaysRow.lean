/- TablePlays, as the row's frame asks for it. -/
import Derived.Test.YtdpomneoiagpiaaPlays
set_option linter.unusedVariables false
namespace Go.Proofs.Ytdpomneoiagpiaa
open Go.RowKit Go.Deep Go.BigFrame
theorem plays_rowT (a : Int) (A : Option Addr) (n c : Nat) (w : World) (h : (Lit.int .i64 a).wf = true) (h1 : ∃ xs, Acts w A n xs ∧ n ≤ c ∧ c ≤ maxLen) :
    Calls Try.prog 6 #[.int .i64 a, .slice A n c] w fun e w' => e = .returned (.bool true) ∧ Below w.heap.size w w' := by
  obtain ⟨xs, hx, h1, h2⟩ := h1
  exact plays_walk a A n c xs w hx h1 h2
end Go.Proofs.Ytdpomneoiagpiaa
