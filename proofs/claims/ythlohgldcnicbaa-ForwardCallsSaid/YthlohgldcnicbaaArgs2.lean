/- Structs as arguments. -/
import Derived.Test.YthlohgldcnicbaaArgs
set_option linter.unusedVariables false
namespace Go.Proofs.Ythlohgldcnicbaa
open Go.RowKit Go.Deep Go.BigFrame
open Go.ChangeShapes Go.WideShapes in
theorem open_cfg_arg {H : Type} {enc : TypeId × Value → H} {w W : World} {r : Reach} {b0 base : Nat} {sp : Nat → Bool} {held : Bool} {v : Value} {d : DataW H} {p : List MemPlace}
    (hv : Value.okWide Try.prog w r b0 29 v) (h : DataW.Trod enc Try.prog W base sp held 29 v d p) : ∃ c : Cfg, c.Ok ∧ v = c.val := by
  obtain ⟨cs, rfl, -⟩ := okWide_struct Try.underlying29 hv
  obtain ⟨fuel, hf⟩ := h
  obtain ⟨c, hc, e⟩ := open_cfg hf
  refine ⟨c, hc, ?_⟩
  unfold Cfg.val
  congr 1
  exact Array.toList_inj.1 e
open Go.ChangeShapes Go.WideShapes in
theorem open_tup_arg {H : Type} {enc : TypeId × Value → H} {w W : World} {r : Reach} {b0 base : Nat} {sp : Nat → Bool} {held : Bool} {v : Value} {d : DataW H} {p : List MemPlace}
    (hv : Value.okWide Try.prog w r b0 44 v) (h : DataW.Trod enc Try.prog W base sp held 44 v d p) : ∃ c : Tup, c.Ok ∧ v = c.val := by
  obtain ⟨cs, rfl, -⟩ := okWide_struct Try.underlying44 hv
  obtain ⟨fuel, hf⟩ := h
  obtain ⟨c, hc, e⟩ := open_tup hf
  refine ⟨c, hc, ?_⟩
  unfold Tup.val
  congr 1
  exact Array.toList_inj.1 e
end Go.Proofs.Ythlohgldcnicbaa
