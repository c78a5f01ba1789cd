/- ForwardCalls, as the row's frame asks for it. -/
import Derived.Test.YthlohgldcnicbaaCalls
import Derived.Test.YthlohgldcnicbaaArgs2
set_option linter.unusedVariables false
namespace Go.Proofs.Ythlohgldcnicbaa
open Go.RowKit Go.Deep Go.BigFrame
theorem calls_row (c : Cfg) (A : Option Addr) (n cp : Nat) (x : Tup) (outer : Int) (w : World) (hc : c.Ok) (h1 : ∃ xs, xs.length = n ∧ FwsAt w A xs ∧ (∀ f ∈ xs, f.Ok) ∧ n ≤ cp ∧ cp ≤ maxLen) (hx : x.Ok) (ho : (Lit.int .u32 outer).wf = true) :
    Calls Try.prog 4 #[c.val, .slice A n cp, x.val, .int .u32 outer] w fun e w' => e = .returned (.bool true) ∧ Below w.heap.size w w' := by
  obtain ⟨xs, a1, a2, a3, a4, a5⟩ := h1
  exact calls_walk c hc A n cp xs x hx outer w a1 a2 a3 a4 a5
end Go.Proofs.Ythlohgldcnicbaa
