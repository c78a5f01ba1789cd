/- RexmitParts, as the row's frame asks for it. -/
import Derived.Test.YtpigomkhpdfdcaaParts
import Derived.Test.YtpigomkhpdfdcaaTriesRow
set_option linter.unusedVariables false
namespace Go.Proofs.Ytpigomkhpdfdcaa
open Go.RowKit Go.Deep Go.BigFrame
theorem open_byt_arg {H : Type} {enc : TypeId × Value → H} {W : World} {A : Option Addr} {n c : Nat} {d : DataW H} {p : List MemPlace}
    (h : DataW.Trod enc Try.prog W 0 (fun _ => true) true 34 (.slice A n c) d p) : ∃ xs, Byt W (.slice A n c) xs ∧ (∀ x ∈ xs, 0 ≤ x ∧ x ≤ 255) := by
  obtain ⟨fuel, hf⟩ := h
  exact open_byt hf
theorem parts_row (una win rto tries : Int) (v1 v2 : Value) (mss : Int) (w : World) (h : (Lit.int .u32 una).wf = true ∧ (Lit.int .u32 win).wf = true ∧ (Lit.int .u64 rto).wf = true)
    (h1 : ∃ xs, Byt w v1 xs ∧ (∀ x ∈ xs, 0 ≤ x ∧ x ≤ 255)) (h2 : (∃ xs, Byt w v2 xs ∧ (∀ x ∈ xs, 0 ≤ x ∧ x ≤ 255)) ∧ (Lit.int .u8 mss).wf = true) :
    Calls Try.prog 4 #[.agg #[.int .u32 una, .int .u32 win, .int .u64 rto, .int .i64 tries], v1, .agg #[v2, .int .u8 mss]] w fun e w' => e = .returned (.bool true) ∧ Below w.heap.size w w' := by
  obtain ⟨xs, hx, hxb⟩ := h1
  obtain ⟨⟨ps, hp, hpb⟩, hw⟩ := h2
  obtain ⟨A, c, rfl, q1, q2, q3⟩ := hx
  obtain ⟨P, kc, rfl, p1, p2, p3⟩ := hp
  exact parts_walk una win rto tries A xs.length c xs P ps.length kc ps mss w (wf_u32 h.1).1 (wf_u32 h.1).2 (wf_u32 h.2.1).1 (wf_u32 h.2.1).2 (wf_u64 h.2.2).1 (wf_u64 h.2.2).2 rfl ⟨A, c, rfl, q1, q2, q3⟩ hxb rfl ⟨P, kc, rfl, p1, p2, p3⟩ hpb (wf_u8 hw).1 (wf_u8 hw).2
end Go.Proofs.Ytpigomkhpdfdcaa
