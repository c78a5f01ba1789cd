/- RexmitPlays, as the row's frame asks for it. -/
import Derived.Test.YtpigomkhpdfdcaaPlays
import Derived.Test.YtpigomkhpdfdcaaBds
set_option linter.unusedVariables false
namespace Go.Proofs.Ytpigomkhpdfdcaa
open Go.RowKit Go.Deep Go.BigFrame
theorem open_acts_arg {H : Type} {enc : TypeId × Value → H} {W : World} {A : Option Addr} {n c : Nat} {d : DataW H} {p : List MemPlace}
    (h : DataW.Trod enc Try.prog W 0 (fun _ => true) true 52 (.slice A n c) d p) : ∃ xs, Acts W A n xs ∧ n ≤ c ∧ c ≤ maxLen := by
  obtain ⟨fuel, hf⟩ := h
  obtain ⟨A', n', c', xs, hv, q⟩ := open_acts hf
  injection hv with e1 e2 e3
  subst e1 e2 e3
  exact ⟨xs, q⟩
theorem plays_row (una win rto tries : Int) (A : Option Addr) (n c : Nat) (w : World) (h : (Lit.int .u32 una).wf = true ∧ (Lit.int .u32 win).wf = true ∧ (Lit.int .u64 rto).wf = true)
    (h1 : ∃ xs, Acts w A n xs ∧ n ≤ c ∧ c ≤ maxLen) :
    Calls Try.prog 8 #[.agg #[.int .u32 una, .int .u32 win, .int .u64 rto, .int .i64 tries], .slice A n c] w fun e w' => e = .returned (.bool true) ∧ Below w.heap.size w w' := by
  obtain ⟨xs, hx, h1, h2⟩ := h1
  exact plays_walk una win rto tries A n c xs w (wf_u32 h.1).1 (wf_u32 h.1).2 (wf_u32 h.2.1).1 (wf_u32 h.2.1).2 (wf_u64 h.2.2).1 (wf_u64 h.2.2).2 hx h1 h2
end Go.Proofs.Ytpigomkhpdfdcaa
