/- SeqCuts: the walk in the row's words. -/
import Derived.Test.YtlckmdgejendpaaCuts
set_option linter.unusedVariables false
namespace Go.Proofs.Ytlckmdgejendpaa
open Go.RowKit Go.Deep
theorem cuts_row (a b l : Int) (v : Value) (n : Int) (w : World) (hp : (∃ xs, Byt w v xs ∧ ∀ x ∈ xs, 0 ≤ x ∧ x ≤ 255) ∧ (Lit.int .u32 a).wf = true ∧ (Lit.int .u32 b).wf = true ∧ (Lit.int .u32 l).wf = true) (w2 : (Lit.int .u32 n).wf = true) :
    Calls Try.prog 5 #[.agg #[.int .u32 a, .int .u32 b, .int .u32 l, v], .int .u32 n] w fun e w' => e = .returned (.bool true) ∧ Below w.heap.size w w' := by
  obtain ⟨⟨xs, hb, hx⟩, ha, hb', hl⟩ := hp
  exact cuts_walk a b l v n xs w hb hx (bd_u32 ha).1 (bd_u32 ha).2 (bd_u32 hb').1 (bd_u32 hb').2 (bd_u32 hl).1 (bd_u32 hl).2 (bd_u32 w2).1 (bd_u32 w2).2
end Go.Proofs.Ytlckmdgejendpaa
