/- TableOne, as the row's frame asks for it. -/
import Derived.Test.YtdpomneoiagpiaaOne
set_option linter.unusedVariables false
namespace Go.Proofs.Ytdpomneoiagpiaa
open Go.RowKit Go.Deep Go.BigFrame
theorem wfu8' {a : Int} (h : (Lit.int .u8 a).wf = true) : 0 ≤ a ∧ a ≤ 255 := by
  simp [Lit.wf, IntKind.min, IntKind.max, IntKind.signed, IntKind.bits] at h; omega
theorem one_rowT (a : Int) (A : Option Addr) (n c : Nat) (w : World) (h : (Lit.int .u8 a).wf = true) (h1 : ∃ xs, Acts w A n xs ∧ n ≤ c ∧ c ≤ maxLen) :
    Calls Try.prog 5 #[.int .u8 a, .slice A n c] w fun e w' => e = .returned (.bool true) ∧ Below w.heap.size w w' := by
  obtain ⟨xs, hx, h1, h2⟩ := h1
  exact one_walk a A n c xs w (wfu8' h).1 (wfu8' h).2 hx h1 h2
end Go.Proofs.Ytdpomneoiagpiaa
