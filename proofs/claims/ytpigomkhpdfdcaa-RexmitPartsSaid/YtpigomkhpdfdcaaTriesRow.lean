/- RexmitTries, as the row's frame asks for it. -/
import Derived.Test.YtpigomkhpdfdcaaTries
set_option linter.unusedVariables false
namespace Go.Proofs.Ytpigomkhpdfdcaa
open Go.RowKit Go.Deep Go.BigFrame
theorem wf_u32 {a : Int} (h : (Lit.int .u32 a).wf = true) : 0 ≤ a ∧ a ≤ 4294967295 := by
  simp [Lit.wf, IntKind.min, IntKind.max, IntKind.signed, IntKind.bits] at h; omega
theorem wf_u64 {a : Int} (h : (Lit.int .u64 a).wf = true) : 0 ≤ a ∧ a ≤ 18446744073709551615 := by
  simp [Lit.wf, IntKind.min, IntKind.max, IntKind.signed, IntKind.bits] at h; omega
theorem wf_u16 {a : Int} (h : (Lit.int .u16 a).wf = true) : 0 ≤ a ∧ a ≤ 65535 := by
  simp [Lit.wf, IntKind.min, IntKind.max, IntKind.signed, IntKind.bits] at h; omega
theorem wf_u8 {a : Int} (h : (Lit.int .u8 a).wf = true) : 0 ≤ a ∧ a ≤ 255 := by
  simp [Lit.wf, IntKind.min, IntKind.max, IntKind.signed, IntKind.bits] at h; omega
theorem tries_row (una win rto tries at_ by_ : Int) (w : World) (h : (Lit.int .u32 una).wf = true ∧ (Lit.int .u32 win).wf = true ∧ (Lit.int .u64 rto).wf = true) (h1 : (Lit.int .u16 at_).wf = true) (h2 : (Lit.int .u8 by_).wf = true) :
    Calls Try.prog 3 #[.agg #[.int .u32 una, .int .u32 win, .int .u64 rto, .int .i64 tries], .int .u16 at_, .int .u8 by_] w fun e w' => e = .returned (.bool true) ∧ Below w.heap.size w w' :=
  tries_walk una win rto tries at_ by_ w (wf_u32 h.1).1 (wf_u32 h.1).2 (wf_u32 h.2.1).1 (wf_u32 h.2.1).2 (wf_u64 h.2.2).1 (wf_u64 h.2.2).2 (wf_u16 h1).1 (wf_u16 h1).2 (wf_u8 h2).1 (wf_u8 h2).2
end Go.Proofs.Ytpigomkhpdfdcaa
