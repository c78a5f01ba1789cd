/- TableUse, as the row's frame asks for it. -/
import Derived.Test.YtdpomneoiagpiaaUse
set_option linter.unusedVariables false
namespace Go.Proofs.Ytdpomneoiagpiaa
open Go.RowKit Go.Deep Go.BigFrame
theorem wfu8 {a : Int} (h : (Lit.int .u8 a).wf = true) : 0 ≤ a ∧ a ≤ 255 := by
  simp [Lit.wf, IntKind.min, IntKind.max, IntKind.signed, IntKind.bits] at h; omega
theorem use_row (a b c : Int) (w : World) (h0 : (Lit.int .u8 a).wf = true) (h1 : (Lit.int .u8 b).wf = true) (h2 : (Lit.int .u8 c).wf = true) :
    Calls Try.prog 3 #[.int .u8 a, .int .u8 b, .int .u8 c] w fun e w' => e = .returned (.bool true) ∧ Below w.heap.size w w' :=
  use_walk a b c w (wfu8 h0).1 (wfu8 h0).2 (wfu8 h1).1 (wfu8 h1).2 (wfu8 h2).1 (wfu8 h2).2
end Go.Proofs.Ytdpomneoiagpiaa
