/- RexmitGets, as the row's frame asks for it. -/
import Derived.Test.YtpigomkhpdfdcaaGets
import Derived.Test.YtpigomkhpdfdcaaBds
set_option linter.unusedVariables false
namespace Go.Proofs.Ytpigomkhpdfdcaa
open Go.RowKit Go.Deep Go.BigFrame
theorem open_byt_arg2 {H : Type} {enc : TypeId × Value → H} {W : World} {A : Option Addr} {n c : Nat} {d : DataW H} {p : List MemPlace}
    (h : DataW.Trod enc Try.prog W 0 (fun _ => true) true 34 (.slice A n c) d p) : ∃ xs, Byt W (.slice A n c) xs ∧ (∀ x ∈ xs, 0 ≤ x ∧ x ≤ 255) := by
  obtain ⟨fuel, hf⟩ := h
  exact open_byt hf
theorem gets_row (una win rto tries : Int) (A : Option Addr) (m c : Nat) (LA : Option Addr) (ln lc : Nat) (w : World) (h : (Lit.int .u32 una).wf = true ∧ (Lit.int .u32 win).wf = true ∧ (Lit.int .u64 rto).wf = true)
    (h1 : ∃ xs, Byt w (.slice A m c) xs ∧ (∀ x ∈ xs, 0 ≤ x ∧ x ≤ 255)) (h2 : Bools w LA ln ∧ ln ≤ lc ∧ lc ≤ maxLen) :
    Calls Try.prog 6 #[.agg #[.int .u32 una, .int .u32 win, .int .u64 rto, .int .i64 tries], .slice A m c, .slice LA ln lc] w fun e w' => e = .returned (.bool true) ∧ Below w.heap.size w w' := by
  obtain ⟨xs, hx, hxb⟩ := h1
  exact gets_walk una win rto tries A m c xs LA ln lc w (wf_u32 h.1).1 (wf_u32 h.1).2 (wf_u32 h.2.1).1 (wf_u32 h.2.1).2 (wf_u64 h.2.2).1 (wf_u64 h.2.2).2 hx.len_eq.1.symm hx hxb h2.1 h2.2.1 h2.2.2
end Go.Proofs.Ytpigomkhpdfdcaa
