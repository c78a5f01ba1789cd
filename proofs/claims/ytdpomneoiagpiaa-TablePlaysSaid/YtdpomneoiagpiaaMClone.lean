/- maps.Clone. -/
import Derived.Test.YtdpomneoiagpiaaSame
import Derived.Shelf.SlMaps.Clone
set_option linter.unusedVariables false
namespace Go.Proofs
open Go.Shelf
def Try.cloneMap_ren : Go.Shelf.Ren := ⟨fun | 5 => 47 | 7 => 49 | n => n, fun | 23 => 70 | 25 => 33 | 3 => 27 | 4 => 4 | 20 => 20 | n => n, fun | n => n⟩
theorem Try.cloneMap : Go.Proofs.SlLaysW.n5 Try.prog Try.cloneMap_ren where
  mixed := by kernel_rfl
  f5 := ⟨ "maps.Clone[map[culvert/api.Tuple]uint64,culvert/api.Tuple,uint64]", by decide, Try.func47.trans (congrArg some (by kernel_rfl))⟩
  f7 := Try.func49.trans (congrArg some (by kernel_rfl))
  t4 := Try.underlying4
  a4 := Try.isAgg4
  z4 := Try.sizeOf4
  v4 := Try.zeroValue4
  t20 := Try.underlying20
  a20 := Try.isAgg20
  z20 := Try.sizeOf20
  v20 := Try.zeroValue20
  t23 := Try.underlying70
  a23 := Try.isAgg70
  z23 := Try.sizeOf70
  v23 := Try.zeroValue70
end Go.Proofs
namespace Go.Proofs.Ytdpomneoiagpiaa
open Go.RowKit Go.Deep Go.BigFrame Go.Shelf
theorem mclone_any {w : World} {b n : Nat} {f : Tup → Int} (h : MapF w b n f) :
    Calls Try.prog 47 #[.map (some b)] w fun e w' => e = .returned (.map (some w.heap.size)) ∧ MapF w' w.heap.size n f ∧ Below w.heap.size w w' := by
  obtain ⟨D, ho, hf⟩ := h
  have hcon := AnyW.maps_Clone_owns Try.cloneMap 33 (plainElem Try.prog 27) b n D w ho
  change Calls Try.prog 47 _ _ _ at hcon
  exact hcon.mono fun e w' ⟨a1, a2, _, a4⟩ => ⟨a1, ⟨D, a2, hf⟩, a4⟩
end Go.Proofs.Ytdpomneoiagpiaa
