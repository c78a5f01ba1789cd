/- TableLeads, as the row's frame asks for it. -/
import Derived.Test.YtdpomneoiagpiaaLeads
set_option linter.unusedVariables false
namespace Go.Proofs.Ytdpomneoiagpiaa
open Go.RowKit Go.Deep Go.BigFrame
theorem wf_u8 {a : Int} (h : (Lit.int .u8 a).wf = true) : 0 ≤ a ∧ a ≤ 255 := by
  simp [Lit.wf, IntKind.min, IntKind.max, IntKind.signed, IntKind.bits] at h; omega
theorem leads_row (a b c : Int) (w : World) (h0 : (Lit.int .u8 a).wf = true) (h1 : (Lit.int .u8 b).wf = true) (h2 : (Lit.int .u8 c).wf = true) :
    Calls Try.prog 4 #[.int .u8 a, .int .u8 b, .int .u8 c] w fun e w' => e = .returned (.bool true) ∧ Below w.heap.size w w' :=
  leads_walk a b c w (wf_u8 h0).1 (wf_u8 h0).2 (wf_u8 h1).1 (wf_u8 h1).2 (wf_u8 h2).1 (wf_u8 h2).2
end Go.Proofs.Ytdpomneoiagpiaa
