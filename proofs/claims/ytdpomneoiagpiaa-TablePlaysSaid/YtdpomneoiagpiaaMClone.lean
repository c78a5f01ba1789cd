/- maps.Clone. -/
import Derived.Test.YtdpomneoiagpiaaSame
import Derived.Ground.SlmcProg
import Derived.Shelf.Lay
import Derived.Shelf.SlMaps.Clone
set_option linter.unusedVariables false
namespace Go.Proofs
open Go.Shelf
shelf_lay_g SlLaysW.n5 Slmc 5 at Try 47 as Try.cloneMap
end Go.Proofs
namespace Go.Proofs.Ytdpomneoiagpiaa
open Go.RowKit Go.Deep Go.BigFrame Go.Shelf
theorem mclone_any {w : World} {b n : Nat} {f : Tup → Int} (h : MapF w b n f) :
    Calls Try.prog 47 #[.map (some b)] w fun e w' => e = .returned (.map (some w.heap.size)) ∧ MapF w' w.heap.size n f ∧ Below w.heap.size w w' := by
  obtain ⟨D, ho, hf⟩ := h
  have hcon := AnyW.maps_Clone_owns Try.cloneMap 33 (plainElem Try.prog 27) b n D w ho
  change Calls Try.prog 47 _ _ _ at hcon
  exact hcon.mono fun e w' ⟨a1, a2, _, a4⟩ => ⟨a1, ⟨D, a2, hf⟩, a4⟩
end Go.Proofs.Ytdpomneoiagpiaa
