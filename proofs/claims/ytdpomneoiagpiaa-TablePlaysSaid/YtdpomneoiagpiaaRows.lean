/-
  No cell of these rows narrows 'for every input' (looked for: loops, veiled, ifaces, maps, wideKeys, modest, calm, conditions, laid).
  DERIVED. THE GIVEN ROWS OF THIS SEAT. 5 by the template 'for every input the law returns true; each argument reads behind the call as it read before'; 0 by the template 'total and deterministic' (their statements: YtdpomneoiagpiaaTotals.lean).
  GIVEN WITH THE SEED: the statements are not yours to turn. If you find one false, say at which input.
  Laid BY PROGRAM, IN A SANDBOX (cutbox-rows.mjs): the forced cells as the released guide's own fill.sh prints them over the translation 44f4e41717f46f55… (all of the seat's roots in one cut). By AI agents, Wed Nov 11 2026. No macro, syntax, notation, axiom, sorry.
-/
import Derived.Test.YtdpomneoiagpiaaChecked
import GoSem.Claim
import GoSem.ClaimJoined
import GoSem.ClaimMapViews
import Derived.JoinedTies
import Derived.KernelRfl
namespace Go.Proofs.Ytdpomneoiagpiaa
/- THE CELL 'sum', in the pinned program and in every row, IS THE sha256 OF THE DUMP (.gsa) THAT YtdpomneoiagpiaaProg.lean LOADS. Nothing in Lean hashes anything: it is a label: what it is worth is what the hold of that sum in a sandbox is worth. -/
noncomputable def Try.pinned : Pinned := { name := "ytdpomneoiagpiaa", sum := "44f4e41717f46f55caf88ca12ccf654034471862456a5c7b5494649c4eb39fcf", checked := Try.checked }
namespace Rows
def none {H : Type} : Left H := { results := [], args := [] }

/-- 'culvertlaw13.TableUse': WHATEVER THE INPUT: true; the input reads as it did. -/
def tableUseSpec : ChangeSpec := { name := "tableUse", fn := fun _ => fun
  | [d1, d2, d3] => { results := [.lit (.bool true)], args := [d1, d2, d3] }
  | _ => none }
def tableUseRow : OpenClaim := { program := "ytdpomneoiagpiaa", sum := "44f4e41717f46f55caf88ca12ccf654034471862456a5c7b5494649c4eb39fcf", func := "culvert/culvertlaw13.TableUse", spec := "tableUse", unfollowed := true, recurses := true, plainKeys := false, apart := false }
def TableUseSaid : Prop := tableUseRow.holds Try.pinned (OpenSpec.ofChange tableUseSpec)

/-- ITS FALSE NEIGHBOUR: 'it returns false'. Refute it at one input. -/
def tableUseWrong : ChangeSpec := { name := "tableUse", fn := fun _ => fun
  | [d1, d2, d3] => { results := [.lit (.bool false)], args := [d1, d2, d3] }
  | _ => none }
def TableUseWrongFalsely : Prop := tableUseRow.holds Try.pinned (OpenSpec.ofChange tableUseWrong)

/-- 'culvertlaw13.TableLeads': WHATEVER THE INPUT: true; the input reads as it did. -/
def tableLeadsSpec : ChangeSpec := { name := "tableLeads", fn := fun _ => fun
  | [d1, d2, d3] => { results := [.lit (.bool true)], args := [d1, d2, d3] }
  | _ => none }
def tableLeadsRow : OpenClaim := { program := "ytdpomneoiagpiaa", sum := "44f4e41717f46f55caf88ca12ccf654034471862456a5c7b5494649c4eb39fcf", func := "culvert/culvertlaw13.TableLeads", spec := "tableLeads", unfollowed := true, recurses := true, plainKeys := false, apart := false }
def TableLeadsSaid : Prop := tableLeadsRow.holds Try.pinned (OpenSpec.ofChange tableLeadsSpec)

/-- ITS FALSE NEIGHBOUR: 'it returns false'. Refute it at one input. -/
def tableLeadsWrong : ChangeSpec := { name := "tableLeads", fn := fun _ => fun
  | [d1, d2, d3] => { results := [.lit (.bool false)], args := [d1, d2, d3] }
  | _ => none }
def TableLeadsWrongFalsely : Prop := tableLeadsRow.holds Try.pinned (OpenSpec.ofChange tableLeadsWrong)

/-- 'culvertlaw13.TableOne': WHATEVER THE INPUT: true; the input reads as it did. -/
def tableOneSpec : ChangeSpec := { name := "tableOne", fn := fun _ => fun
  | [d1, d2] => { results := [.lit (.bool true)], args := [d1, d2] }
  | _ => none }
def tableOneRow : OpenClaim := { program := "ytdpomneoiagpiaa", sum := "44f4e41717f46f55caf88ca12ccf654034471862456a5c7b5494649c4eb39fcf", func := "culvert/culvertlaw13.TableOne", spec := "tableOne", unfollowed := true, recurses := true, plainKeys := false, apart := false }
def TableOneSaid : Prop := tableOneRow.holds Try.pinned (OpenSpec.ofChange tableOneSpec)

/-- ITS FALSE NEIGHBOUR: 'it returns false'. Refute it at one input. -/
def tableOneWrong : ChangeSpec := { name := "tableOne", fn := fun _ => fun
  | [d1, d2] => { results := [.lit (.bool false)], args := [d1, d2] }
  | _ => none }
def TableOneWrongFalsely : Prop := tableOneRow.holds Try.pinned (OpenSpec.ofChange tableOneWrong)

/-- 'culvertlaw13.TablePlays': WHATEVER THE INPUT: true; the input reads as it did. -/
def tablePlaysSpec : ChangeSpec := { name := "tablePlays", fn := fun _ => fun
  | [d1, d2] => { results := [.lit (.bool true)], args := [d1, d2] }
  | _ => none }
def tablePlaysRow : OpenClaim := { program := "ytdpomneoiagpiaa", sum := "44f4e41717f46f55caf88ca12ccf654034471862456a5c7b5494649c4eb39fcf", func := "culvert/culvertlaw13.TablePlays", spec := "tablePlays", inPlace := ["maps.clone"], unfollowed := true, recurses := true, plainKeys := false, apart := false }
def TablePlaysSaid : Prop := tablePlaysRow.holds Try.pinned (OpenSpec.ofChange tablePlaysSpec)

/-- ITS FALSE NEIGHBOUR: 'it returns false'. Refute it at one input. -/
def tablePlaysWrong : ChangeSpec := { name := "tablePlays", fn := fun _ => fun
  | [d1, d2] => { results := [.lit (.bool false)], args := [d1, d2] }
  | _ => none }
def TablePlaysWrongFalsely : Prop := tablePlaysRow.holds Try.pinned (OpenSpec.ofChange tablePlaysWrong)

/-- 'culvertlaw13.TableKnown': WHATEVER THE INPUT: true; the input reads as it did. -/
def tableKnownSpec : ChangeSpec := { name := "tableKnown", fn := fun _ => fun
  | [] => { results := [.lit (.bool true)], args := [] }
  | _ => none }
def tableKnownRow : OpenClaim := { program := "ytdpomneoiagpiaa", sum := "44f4e41717f46f55caf88ca12ccf654034471862456a5c7b5494649c4eb39fcf", func := "culvert/culvertlaw13.TableKnown", spec := "tableKnown", inPlace := ["maps.clone"], unfollowed := true, recurses := true, plainKeys := false, apart := false }
def TableKnownSaid : Prop := tableKnownRow.holds Try.pinned (OpenSpec.ofChange tableKnownSpec)

/-- ITS FALSE NEIGHBOUR: 'it returns false'. Refute it at one input. -/
def tableKnownWrong : ChangeSpec := { name := "tableKnown", fn := fun _ => fun
  | [] => { results := [.lit (.bool false)], args := [] }
  | _ => none }
def TableKnownWrongFalsely : Prop := tableKnownRow.holds Try.pinned (OpenSpec.ofChange tableKnownWrong)

/- THE SECOND FORM. 'bulk': how many values and letters a reading holds, each counted each time it is reached (what is shared counts as often as it is met; a slice's spare places count too). A statement '..UptoSaid' is the law's where the arguments, and the package variables that the reading takes, are together of bulk at most 1048576: NARROWER than '..Said'. Prove '..Said' where nothing that the law and all that it calls make is longer than what came in: it says more and counts as full. Else prove '..UptoSaid'. A law counts once. -/
mutual
def uptoBulk {H : Type} : DataW H → Nat
  | .lit (.string bytes) => bytes.length + 1
  | .lit _ => 1
  | .nil => 1
  | .ptr d => uptoBulk d + 1
  | .slice elems spare => uptoBulkAll elems + uptoBulkAll spare + 1
  | .agg parts => uptoBulkAll parts + 1
  | .iface _ d => uptoBulk d + 1
  | .map entries => uptoBulkEntries entries + 1
  | .held _ => 1
def uptoBulkAll {H : Type} : List (DataW H) → Nat
  | [] => 0
  | d :: r => uptoBulk d + uptoBulkAll r
def uptoBulkEntries {H : Type} : List (Lit × DataW H) → Nat
  | [] => 0
  | x :: r => uptoBulkEntry x + uptoBulkEntries r
def uptoBulkEntry {H : Type} : Lit × DataW H → Nat
  | (.string bytes, d) => bytes.length + uptoBulk d + 1
  | (_, d) => uptoBulk d + 1
 end
def uptoSmall : (H : Type) → List (DataW H) → Bool := fun _ ds => decide (uptoBulkAll ds ≤ 1048576)
def OpenSpec.upto (s : _root_.Go.ChangeSpec) : _root_.Go.OpenSpec := { _root_.Go.OpenSpec.ofChange s with cond := some uptoSmall }

/-- 'culvertlaw13.TableUse', WHERE WHAT IT READS IS OF BULK AT MOST 1048576: true; the input reads as it did. -/
def tableUseUptoRow : OpenClaim := { program := "ytdpomneoiagpiaa", sum := "44f4e41717f46f55caf88ca12ccf654034471862456a5c7b5494649c4eb39fcf", func := "culvert/culvertlaw13.TableUse", spec := "tableUse", unfollowed := true, recurses := true, plainKeys := false, apart := false, narrowed := true }
def TableUseUptoSaid : Prop := tableUseUptoRow.holds Try.pinned (OpenSpec.upto tableUseSpec)

/-- 'culvertlaw13.TableLeads', WHERE WHAT IT READS IS OF BULK AT MOST 1048576: true; the input reads as it did. -/
def tableLeadsUptoRow : OpenClaim := { program := "ytdpomneoiagpiaa", sum := "44f4e41717f46f55caf88ca12ccf654034471862456a5c7b5494649c4eb39fcf", func := "culvert/culvertlaw13.TableLeads", spec := "tableLeads", unfollowed := true, recurses := true, plainKeys := false, apart := false, narrowed := true }
def TableLeadsUptoSaid : Prop := tableLeadsUptoRow.holds Try.pinned (OpenSpec.upto tableLeadsSpec)

/-- 'culvertlaw13.TableOne', WHERE WHAT IT READS IS OF BULK AT MOST 1048576: true; the input reads as it did. -/
def tableOneUptoRow : OpenClaim := { program := "ytdpomneoiagpiaa", sum := "44f4e41717f46f55caf88ca12ccf654034471862456a5c7b5494649c4eb39fcf", func := "culvert/culvertlaw13.TableOne", spec := "tableOne", unfollowed := true, recurses := true, plainKeys := false, apart := false, narrowed := true }
def TableOneUptoSaid : Prop := tableOneUptoRow.holds Try.pinned (OpenSpec.upto tableOneSpec)

/-- 'culvertlaw13.TablePlays', WHERE WHAT IT READS IS OF BULK AT MOST 1048576: true; the input reads as it did. -/
def tablePlaysUptoRow : OpenClaim := { program := "ytdpomneoiagpiaa", sum := "44f4e41717f46f55caf88ca12ccf654034471862456a5c7b5494649c4eb39fcf", func := "culvert/culvertlaw13.TablePlays", spec := "tablePlays", inPlace := ["maps.clone"], unfollowed := true, recurses := true, plainKeys := false, apart := false, narrowed := true }
def TablePlaysUptoSaid : Prop := tablePlaysUptoRow.holds Try.pinned (OpenSpec.upto tablePlaysSpec)

/-- 'culvertlaw13.TableKnown', WHERE WHAT IT READS IS OF BULK AT MOST 1048576: true; the input reads as it did. -/
def tableKnownUptoRow : OpenClaim := { program := "ytdpomneoiagpiaa", sum := "44f4e41717f46f55caf88ca12ccf654034471862456a5c7b5494649c4eb39fcf", func := "culvert/culvertlaw13.TableKnown", spec := "tableKnown", inPlace := ["maps.clone"], unfollowed := true, recurses := true, plainKeys := false, apart := false, narrowed := true }
def TableKnownUptoSaid : Prop := tableKnownUptoRow.holds Try.pinned (OpenSpec.upto tableKnownSpec)

end Rows
end Go.Proofs.Ytdpomneoiagpiaa
