/-
  No cell of these rows narrows 'for every input' (looked for: loops, veiled, ifaces, maps, wideKeys, modest, calm, conditions, laid).
  DERIVED. THE GIVEN ROWS OF THIS SEAT. 6 by the template 'for every input the law returns true; each argument reads behind the call as it read before'; 0 by the template 'total and deterministic' (their statements: YtlckmdgejendpaaTotals.lean).
  GIVEN WITH THE SEED: the statements are not yours to turn. If you find one false, say at which input.
  Laid BY PROGRAM, IN A SANDBOX (cutbox-rows.mjs): the forced cells as the released guide's own fill.sh prints them over the translation 8da6e602141b7128… (all of the seat's roots in one cut). By AI agents, Wed Nov 11 2026. No macro, syntax, notation, axiom, sorry.
-/
import Derived.Test.YtlckmdgejendpaaChecked
import GoSem.Claim
import GoSem.ClaimJoined
import GoSem.ClaimMapViews
import Derived.JoinedTies
import Derived.KernelRfl
namespace Go.Proofs.Ytlckmdgejendpaa
/- THE CELL 'sum', in the pinned program and in every row, IS THE sha256 OF THE DUMP (.gsa) THAT YtlckmdgejendpaaProg.lean LOADS. Nothing in Lean hashes anything: it is a label: what it is worth is what the hold of that sum in a sandbox is worth. -/
noncomputable def Try.pinned : Pinned := { name := "ytlckmdgejendpaa", sum := "8da6e602141b712860efae2e9a31b415e38b7c871b72c759fdfef3ab18bc2afd", checked := Try.checked }
namespace Rows
def none {H : Type} : Left H := { results := [], args := [] }

/-- 'culvertlaw01.SeqKnown': WHATEVER THE INPUT: true; the input reads as it did. -/
def seqKnownSpec : ChangeSpec := { name := "seqKnown", fn := fun _ => fun
  | [] => { results := [.lit (.bool true)], args := [] }
  | _ => none }
def seqKnownRow : OpenClaim := { program := "ytlckmdgejendpaa", sum := "8da6e602141b712860efae2e9a31b415e38b7c871b72c759fdfef3ab18bc2afd", func := "culvert/culvertlaw01.SeqKnown", spec := "seqKnown", unfollowed := true, recurses := true, apart := false }
def SeqKnownSaid : Prop := seqKnownRow.holds Try.pinned (OpenSpec.ofChange seqKnownSpec)

/-- ITS FALSE NEIGHBOUR: 'it returns false'. Refute it at one input. -/
def seqKnownWrong : ChangeSpec := { name := "seqKnown", fn := fun _ => fun
  | [] => { results := [.lit (.bool false)], args := [] }
  | _ => none }
def SeqKnownWrongFalsely : Prop := seqKnownRow.holds Try.pinned (OpenSpec.ofChange seqKnownWrong)

/-- 'culvertlaw01.SeqTakes': WHATEVER THE INPUT: true; the input reads as it did. -/
def seqTakesSpec : ChangeSpec := { name := "seqTakes", fn := fun _ => fun
  | [d1, d2] => { results := [.lit (.bool true)], args := [d1, d2] }
  | _ => none }
def seqTakesRow : OpenClaim := { program := "ytlckmdgejendpaa", sum := "8da6e602141b712860efae2e9a31b415e38b7c871b72c759fdfef3ab18bc2afd", func := "culvert/culvertlaw01.SeqTakes", spec := "seqTakes", unfollowed := true, recurses := true, apart := false }
def SeqTakesSaid : Prop := seqTakesRow.holds Try.pinned (OpenSpec.ofChange seqTakesSpec)

/-- ITS FALSE NEIGHBOUR: 'it returns false'. Refute it at one input. -/
def seqTakesWrong : ChangeSpec := { name := "seqTakes", fn := fun _ => fun
  | [d1, d2] => { results := [.lit (.bool false)], args := [d1, d2] }
  | _ => none }
def SeqTakesWrongFalsely : Prop := seqTakesRow.holds Try.pinned (OpenSpec.ofChange seqTakesWrong)

/-- 'culvertlaw01.SeqCuts': WHATEVER THE INPUT: true; the input reads as it did. -/
def seqCutsSpec : ChangeSpec := { name := "seqCuts", fn := fun _ => fun
  | [d1, d2] => { results := [.lit (.bool true)], args := [d1, d2] }
  | _ => none }
def seqCutsRow : OpenClaim := { program := "ytlckmdgejendpaa", sum := "8da6e602141b712860efae2e9a31b415e38b7c871b72c759fdfef3ab18bc2afd", func := "culvert/culvertlaw01.SeqCuts", spec := "seqCuts", unfollowed := true, recurses := true, apart := false }
def SeqCutsSaid : Prop := seqCutsRow.holds Try.pinned (OpenSpec.ofChange seqCutsSpec)

/-- ITS FALSE NEIGHBOUR: 'it returns false'. Refute it at one input. -/
def seqCutsWrong : ChangeSpec := { name := "seqCuts", fn := fun _ => fun
  | [d1, d2] => { results := [.lit (.bool false)], args := [d1, d2] }
  | _ => none }
def SeqCutsWrongFalsely : Prop := seqCutsRow.holds Try.pinned (OpenSpec.ofChange seqCutsWrong)

/-- 'culvertlaw01.SeqNumbers': WHATEVER THE INPUT: true; the input reads as it did. -/
def seqNumbersSpec : ChangeSpec := { name := "seqNumbers", fn := fun _ => fun
  | [d1, d2, d3] => { results := [.lit (.bool true)], args := [d1, d2, d3] }
  | _ => none }
def seqNumbersRow : OpenClaim := { program := "ytlckmdgejendpaa", sum := "8da6e602141b712860efae2e9a31b415e38b7c871b72c759fdfef3ab18bc2afd", func := "culvert/culvertlaw01.SeqNumbers", spec := "seqNumbers", unfollowed := true, recurses := true, apart := false }
def SeqNumbersSaid : Prop := seqNumbersRow.holds Try.pinned (OpenSpec.ofChange seqNumbersSpec)

/-- ITS FALSE NEIGHBOUR: 'it returns false'. Refute it at one input. -/
def seqNumbersWrong : ChangeSpec := { name := "seqNumbers", fn := fun _ => fun
  | [d1, d2, d3] => { results := [.lit (.bool false)], args := [d1, d2, d3] }
  | _ => none }
def SeqNumbersWrongFalsely : Prop := seqNumbersRow.holds Try.pinned (OpenSpec.ofChange seqNumbersWrong)

/-- 'culvertlaw01.SeqPlaces': WHATEVER THE INPUT: true; the input reads as it did. -/
def seqPlacesSpec : ChangeSpec := { name := "seqPlaces", fn := fun _ => fun
  | [d1, d2, d3] => { results := [.lit (.bool true)], args := [d1, d2, d3] }
  | _ => none }
def seqPlacesRow : OpenClaim := { program := "ytlckmdgejendpaa", sum := "8da6e602141b712860efae2e9a31b415e38b7c871b72c759fdfef3ab18bc2afd", func := "culvert/culvertlaw01.SeqPlaces", spec := "seqPlaces", unfollowed := true, recurses := true, apart := false }
def SeqPlacesSaid : Prop := seqPlacesRow.holds Try.pinned (OpenSpec.ofChange seqPlacesSpec)

/-- ITS FALSE NEIGHBOUR: 'it returns false'. Refute it at one input. -/
def seqPlacesWrong : ChangeSpec := { name := "seqPlaces", fn := fun _ => fun
  | [d1, d2, d3] => { results := [.lit (.bool false)], args := [d1, d2, d3] }
  | _ => none }
def SeqPlacesWrongFalsely : Prop := seqPlacesRow.holds Try.pinned (OpenSpec.ofChange seqPlacesWrong)

/-- 'culvertlaw01.SeqRound': WHATEVER THE INPUT: true; the input reads as it did. -/
def seqRoundSpec : ChangeSpec := { name := "seqRound", fn := fun _ => fun
  | [d1, d2, d3] => { results := [.lit (.bool true)], args := [d1, d2, d3] }
  | _ => none }
def seqRoundRow : OpenClaim := { program := "ytlckmdgejendpaa", sum := "8da6e602141b712860efae2e9a31b415e38b7c871b72c759fdfef3ab18bc2afd", func := "culvert/culvertlaw01.SeqRound", spec := "seqRound", unfollowed := true, recurses := true, apart := false }
def SeqRoundSaid : Prop := seqRoundRow.holds Try.pinned (OpenSpec.ofChange seqRoundSpec)

/-- ITS FALSE NEIGHBOUR: 'it returns false'. Refute it at one input. -/
def seqRoundWrong : ChangeSpec := { name := "seqRound", fn := fun _ => fun
  | [d1, d2, d3] => { results := [.lit (.bool false)], args := [d1, d2, d3] }
  | _ => none }
def SeqRoundWrongFalsely : Prop := seqRoundRow.holds Try.pinned (OpenSpec.ofChange seqRoundWrong)

/- THE SECOND FORM. 'bulk': how many values and letters a reading holds, each counted each time it is reached (what is shared counts as often as it is met; a slice's spare places count too). A statement '..UptoSaid' is the law's where the arguments, and the package variables that the reading takes, are together of bulk at most 1048576: NARROWER than '..Said'. Prove '..Said' where nothing that the law and all that it calls make is longer than what came in: it says more and counts as full. Else prove '..UptoSaid'. A law counts once. -/
mutual
def uptoBulk {H : Type} : DataW H → Nat
  | .lit (.string bytes) => bytes.length + 1
  | .lit _ => 1
  | .nil => 1
  | .ptr d => uptoBulk d + 1
  | .slice elems spare => uptoBulkAll elems + uptoBulkAll spare + 1
  | .agg parts => uptoBulkAll parts + 1
  | .iface _ d => uptoBulk d + 1
  | .map entries => uptoBulkEntries entries + 1
  | .held _ => 1
def uptoBulkAll {H : Type} : List (DataW H) → Nat
  | [] => 0
  | d :: r => uptoBulk d + uptoBulkAll r
def uptoBulkEntries {H : Type} : List (Lit × DataW H) → Nat
  | [] => 0
  | x :: r => uptoBulkEntry x + uptoBulkEntries r
def uptoBulkEntry {H : Type} : Lit × DataW H → Nat
  | (.string bytes, d) => bytes.length + uptoBulk d + 1
  | (_, d) => uptoBulk d + 1
 end
def uptoSmall : (H : Type) → List (DataW H) → Bool := fun _ ds => decide (uptoBulkAll ds ≤ 1048576)
def OpenSpec.upto (s : _root_.Go.ChangeSpec) : _root_.Go.OpenSpec := { _root_.Go.OpenSpec.ofChange s with cond := some uptoSmall }

/-- 'culvertlaw01.SeqKnown', WHERE WHAT IT READS IS OF BULK AT MOST 1048576: true; the input reads as it did. -/
def seqKnownUptoRow : OpenClaim := { program := "ytlckmdgejendpaa", sum := "8da6e602141b712860efae2e9a31b415e38b7c871b72c759fdfef3ab18bc2afd", func := "culvert/culvertlaw01.SeqKnown", spec := "seqKnown", unfollowed := true, recurses := true, apart := false, narrowed := true }
def SeqKnownUptoSaid : Prop := seqKnownUptoRow.holds Try.pinned (OpenSpec.upto seqKnownSpec)

/-- 'culvertlaw01.SeqTakes', WHERE WHAT IT READS IS OF BULK AT MOST 1048576: true; the input reads as it did. -/
def seqTakesUptoRow : OpenClaim := { program := "ytlckmdgejendpaa", sum := "8da6e602141b712860efae2e9a31b415e38b7c871b72c759fdfef3ab18bc2afd", func := "culvert/culvertlaw01.SeqTakes", spec := "seqTakes", unfollowed := true, recurses := true, apart := false, narrowed := true }
def SeqTakesUptoSaid : Prop := seqTakesUptoRow.holds Try.pinned (OpenSpec.upto seqTakesSpec)

/-- 'culvertlaw01.SeqCuts', WHERE WHAT IT READS IS OF BULK AT MOST 1048576: true; the input reads as it did. -/
def seqCutsUptoRow : OpenClaim := { program := "ytlckmdgejendpaa", sum := "8da6e602141b712860efae2e9a31b415e38b7c871b72c759fdfef3ab18bc2afd", func := "culvert/culvertlaw01.SeqCuts", spec := "seqCuts", unfollowed := true, recurses := true, apart := false, narrowed := true }
def SeqCutsUptoSaid : Prop := seqCutsUptoRow.holds Try.pinned (OpenSpec.upto seqCutsSpec)

/-- 'culvertlaw01.SeqNumbers', WHERE WHAT IT READS IS OF BULK AT MOST 1048576: true; the input reads as it did. -/
def seqNumbersUptoRow : OpenClaim := { program := "ytlckmdgejendpaa", sum := "8da6e602141b712860efae2e9a31b415e38b7c871b72c759fdfef3ab18bc2afd", func := "culvert/culvertlaw01.SeqNumbers", spec := "seqNumbers", unfollowed := true, recurses := true, apart := false, narrowed := true }
def SeqNumbersUptoSaid : Prop := seqNumbersUptoRow.holds Try.pinned (OpenSpec.upto seqNumbersSpec)

/-- 'culvertlaw01.SeqPlaces', WHERE WHAT IT READS IS OF BULK AT MOST 1048576: true; the input reads as it did. -/
def seqPlacesUptoRow : OpenClaim := { program := "ytlckmdgejendpaa", sum := "8da6e602141b712860efae2e9a31b415e38b7c871b72c759fdfef3ab18bc2afd", func := "culvert/culvertlaw01.SeqPlaces", spec := "seqPlaces", unfollowed := true, recurses := true, apart := false, narrowed := true }
def SeqPlacesUptoSaid : Prop := seqPlacesUptoRow.holds Try.pinned (OpenSpec.upto seqPlacesSpec)

/-- 'culvertlaw01.SeqRound', WHERE WHAT IT READS IS OF BULK AT MOST 1048576: true; the input reads as it did. -/
def seqRoundUptoRow : OpenClaim := { program := "ytlckmdgejendpaa", sum := "8da6e602141b712860efae2e9a31b415e38b7c871b72c759fdfef3ab18bc2afd", func := "culvert/culvertlaw01.SeqRound", spec := "seqRound", unfollowed := true, recurses := true, apart := false, narrowed := true }
def SeqRoundUptoSaid : Prop := seqRoundUptoRow.holds Try.pinned (OpenSpec.upto seqRoundSpec)

end Rows
end Go.Proofs.Ytlckmdgejendpaa
