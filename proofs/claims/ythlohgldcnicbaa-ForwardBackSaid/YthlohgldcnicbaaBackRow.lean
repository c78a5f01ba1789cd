/- ForwardBack, as the row's frame asks for it. -/
import Derived.Test.YthlohgldcnicbaaBack
import Derived.Test.YthlohgldcnicbaaArgs2
set_option linter.unusedVariables false
namespace Go.Proofs.Ythlohgldcnicbaa
open Go.RowKit Go.Deep Go.BigFrame
theorem back_row (c : Cfg) (A : Option Addr) (n cp : Nat) (x : Tup) (w : World) (hc : c.Ok) (h1 : ∃ xs, xs.length = n ∧ FwsAt w A xs ∧ (∀ f ∈ xs, f.Ok) ∧ n ≤ cp ∧ cp ≤ maxLen) (hx : x.Ok) :
    Calls Try.prog 6 #[c.val, .slice A n cp, x.val] w fun e w' => e = .returned (.bool true) ∧ Below w.heap.size w w' := by
  obtain ⟨xs, a1, a2, a3, a4, a5⟩ := h1
  exact back_walk c hc A n cp xs x hx w a1 a2 a3 a4 a5
end Go.Proofs.Ythlohgldcnicbaa
