/-
  No cell of these rows narrows 'for every input' (looked for: loops, veiled, ifaces, maps, wideKeys, modest, calm, conditions, laid).
  DERIVED. THE GIVEN ROWS OF THIS SEAT. 6 by the template 'for every input the law returns true; each argument reads behind the call as it read before'; 0 by the template 'total and deterministic' (their statements: YtpigomkhpdfdcaaTotals.lean).
  GIVEN WITH THE SEED: the statements are not yours to turn. If you find one false, say at which input.
  Laid BY PROGRAM, IN A SANDBOX (cutbox-rows.mjs): the forced cells as the released guide's own fill.sh prints them over the translation a4446506c56efb1a… (all of the seat's roots in one cut). By AI agents, Wed Nov 11 2026. No macro, syntax, notation, axiom, sorry.
-/
import Derived.Test.YtpigomkhpdfdcaaChecked
import GoSem.Claim
import GoSem.ClaimJoined
import GoSem.ClaimMapViews
import Derived.JoinedTies
import Derived.KernelRfl
namespace Go.Proofs.Ytpigomkhpdfdcaa
/- THE CELL 'sum', in the pinned program and in every row, IS THE sha256 OF THE DUMP (.gsa) THAT YtpigomkhpdfdcaaProg.lean LOADS. Nothing in Lean hashes anything: it is a label: what it is worth is what the hold of that sum in a sandbox is worth. -/
noncomputable def Try.pinned : Pinned := { name := "ytpigomkhpdfdcaa", sum := "a4446506c56efb1a399147b53fdff99304bf898875e7dac8c2ace9c7745c8755", checked := Try.checked }
namespace Rows
def none {H : Type} : Left H := { results := [], args := [] }

/-- 'culvertlaw19.RexmitTries': WHATEVER THE INPUT: true; the input reads as it did. -/
def rexmitTriesSpec : ChangeSpec := { name := "rexmitTries", fn := fun _ => fun
  | [d1, d2, d3] => { results := [.lit (.bool true)], args := [d1, d2, d3] }
  | _ => none }
def rexmitTriesRow : OpenClaim := { program := "ytpigomkhpdfdcaa", sum := "a4446506c56efb1a399147b53fdff99304bf898875e7dac8c2ace9c7745c8755", func := "culvert/culvertlaw19.RexmitTries", spec := "rexmitTries", unfollowed := true, recurses := true, apart := false }
def RexmitTriesSaid : Prop := rexmitTriesRow.holds Try.pinned (OpenSpec.ofChange rexmitTriesSpec)

/-- ITS FALSE NEIGHBOUR: 'it returns false'. Refute it at one input. -/
def rexmitTriesWrong : ChangeSpec := { name := "rexmitTries", fn := fun _ => fun
  | [d1, d2, d3] => { results := [.lit (.bool false)], args := [d1, d2, d3] }
  | _ => none }
def RexmitTriesWrongFalsely : Prop := rexmitTriesRow.holds Try.pinned (OpenSpec.ofChange rexmitTriesWrong)

/-- 'culvertlaw19.RexmitParts': WHATEVER THE INPUT: true; the input reads as it did. -/
def rexmitPartsSpec : ChangeSpec := { name := "rexmitParts", fn := fun _ => fun
  | [d1, d2, d3] => { results := [.lit (.bool true)], args := [d1, d2, d3] }
  | _ => none }
def rexmitPartsRow : OpenClaim := { program := "ytpigomkhpdfdcaa", sum := "a4446506c56efb1a399147b53fdff99304bf898875e7dac8c2ace9c7745c8755", func := "culvert/culvertlaw19.RexmitParts", spec := "rexmitParts", unfollowed := true, recurses := true, apart := false }
def RexmitPartsSaid : Prop := rexmitPartsRow.holds Try.pinned (OpenSpec.ofChange rexmitPartsSpec)

/-- ITS FALSE NEIGHBOUR: 'it returns false'. Refute it at one input. -/
def rexmitPartsWrong : ChangeSpec := { name := "rexmitParts", fn := fun _ => fun
  | [d1, d2, d3] => { results := [.lit (.bool false)], args := [d1, d2, d3] }
  | _ => none }
def RexmitPartsWrongFalsely : Prop := rexmitPartsRow.holds Try.pinned (OpenSpec.ofChange rexmitPartsWrong)

/-- 'culvertlaw19.RexmitTrue': WHATEVER THE INPUT: true; the input reads as it did. -/
def rexmitTrueSpec : ChangeSpec := { name := "rexmitTrue", fn := fun _ => fun
  | [d1, d2] => { results := [.lit (.bool true)], args := [d1, d2] }
  | _ => none }
def rexmitTrueRow : OpenClaim := { program := "ytpigomkhpdfdcaa", sum := "a4446506c56efb1a399147b53fdff99304bf898875e7dac8c2ace9c7745c8755", func := "culvert/culvertlaw19.RexmitTrue", spec := "rexmitTrue", unfollowed := true, recurses := true, apart := false }
def RexmitTrueSaid : Prop := rexmitTrueRow.holds Try.pinned (OpenSpec.ofChange rexmitTrueSpec)

/-- ITS FALSE NEIGHBOUR: 'it returns false'. Refute it at one input. -/
def rexmitTrueWrong : ChangeSpec := { name := "rexmitTrue", fn := fun _ => fun
  | [d1, d2] => { results := [.lit (.bool false)], args := [d1, d2] }
  | _ => none }
def RexmitTrueWrongFalsely : Prop := rexmitTrueRow.holds Try.pinned (OpenSpec.ofChange rexmitTrueWrong)

/-- 'culvertlaw19.RexmitGets': WHATEVER THE INPUT: true; the input reads as it did. -/
def rexmitGetsSpec : ChangeSpec := { name := "rexmitGets", fn := fun _ => fun
  | [d1, d2, d3] => { results := [.lit (.bool true)], args := [d1, d2, d3] }
  | _ => none }
def rexmitGetsRow : OpenClaim := { program := "ytpigomkhpdfdcaa", sum := "a4446506c56efb1a399147b53fdff99304bf898875e7dac8c2ace9c7745c8755", func := "culvert/culvertlaw19.RexmitGets", spec := "rexmitGets", unfollowed := true, recurses := true, apart := false }
def RexmitGetsSaid : Prop := rexmitGetsRow.holds Try.pinned (OpenSpec.ofChange rexmitGetsSpec)

/-- ITS FALSE NEIGHBOUR: 'it returns false'. Refute it at one input. -/
def rexmitGetsWrong : ChangeSpec := { name := "rexmitGets", fn := fun _ => fun
  | [d1, d2, d3] => { results := [.lit (.bool false)], args := [d1, d2, d3] }
  | _ => none }
def RexmitGetsWrongFalsely : Prop := rexmitGetsRow.holds Try.pinned (OpenSpec.ofChange rexmitGetsWrong)

/-- 'culvertlaw19.RexmitKnown': WHATEVER THE INPUT: true; the input reads as it did. -/
def rexmitKnownSpec : ChangeSpec := { name := "rexmitKnown", fn := fun _ => fun
  | [] => { results := [.lit (.bool true)], args := [] }
  | _ => none }
def rexmitKnownRow : OpenClaim := { program := "ytpigomkhpdfdcaa", sum := "a4446506c56efb1a399147b53fdff99304bf898875e7dac8c2ace9c7745c8755", func := "culvert/culvertlaw19.RexmitKnown", spec := "rexmitKnown", unfollowed := true, recurses := true, apart := false }
def RexmitKnownSaid : Prop := rexmitKnownRow.holds Try.pinned (OpenSpec.ofChange rexmitKnownSpec)

/-- ITS FALSE NEIGHBOUR: 'it returns false'. Refute it at one input. -/
def rexmitKnownWrong : ChangeSpec := { name := "rexmitKnown", fn := fun _ => fun
  | [] => { results := [.lit (.bool false)], args := [] }
  | _ => none }
def RexmitKnownWrongFalsely : Prop := rexmitKnownRow.holds Try.pinned (OpenSpec.ofChange rexmitKnownWrong)

/-- 'culvertlaw19.RexmitPlays': WHATEVER THE INPUT: true; the input reads as it did. -/
def rexmitPlaysSpec : ChangeSpec := { name := "rexmitPlays", fn := fun _ => fun
  | [d1, d2] => { results := [.lit (.bool true)], args := [d1, d2] }
  | _ => none }
def rexmitPlaysRow : OpenClaim := { program := "ytpigomkhpdfdcaa", sum := "a4446506c56efb1a399147b53fdff99304bf898875e7dac8c2ace9c7745c8755", func := "culvert/culvertlaw19.RexmitPlays", spec := "rexmitPlays", unfollowed := true, recurses := true, apart := false }
def RexmitPlaysSaid : Prop := rexmitPlaysRow.holds Try.pinned (OpenSpec.ofChange rexmitPlaysSpec)

/-- ITS FALSE NEIGHBOUR: 'it returns false'. Refute it at one input. -/
def rexmitPlaysWrong : ChangeSpec := { name := "rexmitPlays", fn := fun _ => fun
  | [d1, d2] => { results := [.lit (.bool false)], args := [d1, d2] }
  | _ => none }
def RexmitPlaysWrongFalsely : Prop := rexmitPlaysRow.holds Try.pinned (OpenSpec.ofChange rexmitPlaysWrong)

/- THE SECOND FORM. 'bulk': how many values and letters a reading holds, each counted each time it is reached (what is shared counts as often as it is met; a slice's spare places count too). A statement '..UptoSaid' is the law's where the arguments, and the package variables that the reading takes, are together of bulk at most 1048576: NARROWER than '..Said'. Prove '..Said' where nothing that the law and all that it calls make is longer than what came in: it says more and counts as full. Else prove '..UptoSaid'. A law counts once. -/
mutual
def uptoBulk {H : Type} : DataW H → Nat
  | .lit (.string bytes) => bytes.length + 1
  | .lit _ => 1
  | .nil => 1
  | .ptr d => uptoBulk d + 1
  | .slice elems spare => uptoBulkAll elems + uptoBulkAll spare + 1
  | .agg parts => uptoBulkAll parts + 1
  | .iface _ d => uptoBulk d + 1
  | .map entries => uptoBulkEntries entries + 1
  | .held _ => 1
def uptoBulkAll {H : Type} : List (DataW H) → Nat
  | [] => 0
  | d :: r => uptoBulk d + uptoBulkAll r
def uptoBulkEntries {H : Type} : List (Lit × DataW H) → Nat
  | [] => 0
  | x :: r => uptoBulkEntry x + uptoBulkEntries r
def uptoBulkEntry {H : Type} : Lit × DataW H → Nat
  | (.string bytes, d) => bytes.length + uptoBulk d + 1
  | (_, d) => uptoBulk d + 1
 end
def uptoSmall : (H : Type) → List (DataW H) → Bool := fun _ ds => decide (uptoBulkAll ds ≤ 1048576)
def OpenSpec.upto (s : _root_.Go.ChangeSpec) : _root_.Go.OpenSpec := { _root_.Go.OpenSpec.ofChange s with cond := some uptoSmall }

/-- 'culvertlaw19.RexmitTries', WHERE WHAT IT READS IS OF BULK AT MOST 1048576: true; the input reads as it did. -/
def rexmitTriesUptoRow : OpenClaim := { program := "ytpigomkhpdfdcaa", sum := "a4446506c56efb1a399147b53fdff99304bf898875e7dac8c2ace9c7745c8755", func := "culvert/culvertlaw19.RexmitTries", spec := "rexmitTries", unfollowed := true, recurses := true, apart := false, narrowed := true }
def RexmitTriesUptoSaid : Prop := rexmitTriesUptoRow.holds Try.pinned (OpenSpec.upto rexmitTriesSpec)

/-- 'culvertlaw19.RexmitParts', WHERE WHAT IT READS IS OF BULK AT MOST 1048576: true; the input reads as it did. -/
def rexmitPartsUptoRow : OpenClaim := { program := "ytpigomkhpdfdcaa", sum := "a4446506c56efb1a399147b53fdff99304bf898875e7dac8c2ace9c7745c8755", func := "culvert/culvertlaw19.RexmitParts", spec := "rexmitParts", unfollowed := true, recurses := true, apart := false, narrowed := true }
def RexmitPartsUptoSaid : Prop := rexmitPartsUptoRow.holds Try.pinned (OpenSpec.upto rexmitPartsSpec)

/-- 'culvertlaw19.RexmitTrue', WHERE WHAT IT READS IS OF BULK AT MOST 1048576: true; the input reads as it did. -/
def rexmitTrueUptoRow : OpenClaim := { program := "ytpigomkhpdfdcaa", sum := "a4446506c56efb1a399147b53fdff99304bf898875e7dac8c2ace9c7745c8755", func := "culvert/culvertlaw19.RexmitTrue", spec := "rexmitTrue", unfollowed := true, recurses := true, apart := false, narrowed := true }
def RexmitTrueUptoSaid : Prop := rexmitTrueUptoRow.holds Try.pinned (OpenSpec.upto rexmitTrueSpec)

/-- 'culvertlaw19.RexmitGets', WHERE WHAT IT READS IS OF BULK AT MOST 1048576: true; the input reads as it did. -/
def rexmitGetsUptoRow : OpenClaim := { program := "ytpigomkhpdfdcaa", sum := "a4446506c56efb1a399147b53fdff99304bf898875e7dac8c2ace9c7745c8755", func := "culvert/culvertlaw19.RexmitGets", spec := "rexmitGets", unfollowed := true, recurses := true, apart := false, narrowed := true }
def RexmitGetsUptoSaid : Prop := rexmitGetsUptoRow.holds Try.pinned (OpenSpec.upto rexmitGetsSpec)

/-- 'culvertlaw19.RexmitKnown', WHERE WHAT IT READS IS OF BULK AT MOST 1048576: true; the input reads as it did. -/
def rexmitKnownUptoRow : OpenClaim := { program := "ytpigomkhpdfdcaa", sum := "a4446506c56efb1a399147b53fdff99304bf898875e7dac8c2ace9c7745c8755", func := "culvert/culvertlaw19.RexmitKnown", spec := "rexmitKnown", unfollowed := true, recurses := true, apart := false, narrowed := true }
def RexmitKnownUptoSaid : Prop := rexmitKnownUptoRow.holds Try.pinned (OpenSpec.upto rexmitKnownSpec)

/-- 'culvertlaw19.RexmitPlays', WHERE WHAT IT READS IS OF BULK AT MOST 1048576: true; the input reads as it did. -/
def rexmitPlaysUptoRow : OpenClaim := { program := "ytpigomkhpdfdcaa", sum := "a4446506c56efb1a399147b53fdff99304bf898875e7dac8c2ace9c7745c8755", func := "culvert/culvertlaw19.RexmitPlays", spec := "rexmitPlays", unfollowed := true, recurses := true, apart := false, narrowed := true }
def RexmitPlaysUptoSaid : Prop := rexmitPlaysUptoRow.holds Try.pinned (OpenSpec.upto rexmitPlaysSpec)

end Rows
end Go.Proofs.Ytpigomkhpdfdcaa
