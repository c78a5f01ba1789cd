/- ForwardLess for the row's frame. -/
import Derived.Test.YthlohgldcnicbaaLess
import Derived.Test.YthlohgldcnicbaaArgs2
set_option linter.unusedVariables false
namespace Go.Proofs.Ythlohgldcnicbaa
open Go.RowKit
theorem less_row (c : Cfg) (A : Option Addr) (n cp : Nat) (k8 : Int) (w : World) (hc : c.Ok) (h1 : ∃ xs, xs.length = n ∧ FwsAt w A xs ∧ (∀ f ∈ xs, f.Ok) ∧ n ≤ cp ∧ cp ≤ maxLen) (hk : (Lit.int .u8 k8).wf = true) :
    Calls Try.prog 3 #[c.val, .slice A n cp, .int .u8 k8] w fun e w' => e = .returned (.bool true) ∧ Below w.heap.size w w' := by
  obtain ⟨xs, hn, hf, ho, h2, h3⟩ := h1
  exact less_walk c hc A n cp xs k8 hk w hn hf ho h2 h3
end Go.Proofs.Ythlohgldcnicbaa
