/-
  No cell of these rows narrows 'for every input' (looked for: loops, veiled, ifaces, maps, wideKeys, modest, calm, conditions, laid).
  DERIVED. THE GIVEN ROWS OF THIS SEAT. 4 by the template 'for every input the law returns true; each argument reads behind the call as it read before'; 0 by the template 'total and deterministic' (their statements: YthlohgldcnicbaaTotals.lean).
  GIVEN WITH THE SEED: the statements are not yours to turn. If you find one false, say at which input.
  Laid BY PROGRAM, IN A SANDBOX (cutbox-rows.mjs): the forced cells as the released guide's own fill.sh prints them over the translation 2aedafa96f0fe8d3… (all of the seat's roots in one cut). By AI agents, Wed Nov 11 2026. No macro, syntax, notation, axiom, sorry.
-/
import Derived.Test.YthlohgldcnicbaaChecked
import GoSem.Claim
import GoSem.ClaimJoined
import GoSem.ClaimMapViews
import Derived.JoinedTies
import Derived.KernelRfl
namespace Go.Proofs.Ythlohgldcnicbaa
/- THE CELL 'sum', in the pinned program and in every row, IS THE sha256 OF THE DUMP (.gsa) THAT YthlohgldcnicbaaProg.lean LOADS. Nothing in Lean hashes anything: it is a label: what it is worth is what the hold of that sum in a sandbox is worth. -/
noncomputable def Try.pinned : Pinned := { name := "ythlohgldcnicbaa", sum := "2aedafa96f0fe8d3dd6bc439e1ed3f6eaef437309dd81ddbf1ad9dafe88b8211", checked := Try.checked }
namespace Rows
def none {H : Type} : Left H := { results := [], args := [] }

/-- 'culvertlaw14.ForwardLess': WHATEVER THE INPUT: true; the input reads as it did. -/
def forwardLessSpec : ChangeSpec := { name := "forwardLess", fn := fun _ => fun
  | [d1, d2, d3] => { results := [.lit (.bool true)], args := [d1, d2, d3] }
  | _ => none }
def forwardLessRow : OpenClaim := { program := "ythlohgldcnicbaa", sum := "2aedafa96f0fe8d3dd6bc439e1ed3f6eaef437309dd81ddbf1ad9dafe88b8211", func := "culvert/culvertlaw14.ForwardLess", spec := "forwardLess", unfollowed := true, recurses := true, plainKeys := false, apart := false }
def ForwardLessSaid : Prop := forwardLessRow.holds Try.pinned (OpenSpec.ofChange forwardLessSpec)

/-- ITS FALSE NEIGHBOUR: 'it returns false'. Refute it at one input. -/
def forwardLessWrong : ChangeSpec := { name := "forwardLess", fn := fun _ => fun
  | [d1, d2, d3] => { results := [.lit (.bool false)], args := [d1, d2, d3] }
  | _ => none }
def ForwardLessWrongFalsely : Prop := forwardLessRow.holds Try.pinned (OpenSpec.ofChange forwardLessWrong)

/-- 'culvertlaw14.ForwardCalls': WHATEVER THE INPUT: true; the input reads as it did. -/
def forwardCallsSpec : ChangeSpec := { name := "forwardCalls", fn := fun _ => fun
  | [d1, d2, d3, d4] => { results := [.lit (.bool true)], args := [d1, d2, d3, d4] }
  | _ => none }
def forwardCallsRow : OpenClaim := { program := "ythlohgldcnicbaa", sum := "2aedafa96f0fe8d3dd6bc439e1ed3f6eaef437309dd81ddbf1ad9dafe88b8211", func := "culvert/culvertlaw14.ForwardCalls", spec := "forwardCalls", unfollowed := true, recurses := true, plainKeys := false, apart := false }
def ForwardCallsSaid : Prop := forwardCallsRow.holds Try.pinned (OpenSpec.ofChange forwardCallsSpec)

/-- ITS FALSE NEIGHBOUR: 'it returns false'. Refute it at one input. -/
def forwardCallsWrong : ChangeSpec := { name := "forwardCalls", fn := fun _ => fun
  | [d1, d2, d3, d4] => { results := [.lit (.bool false)], args := [d1, d2, d3, d4] }
  | _ => none }
def ForwardCallsWrongFalsely : Prop := forwardCallsRow.holds Try.pinned (OpenSpec.ofChange forwardCallsWrong)

/-- 'culvertlaw14.ForwardKnown': WHATEVER THE INPUT: true; the input reads as it did. -/
def forwardKnownSpec : ChangeSpec := { name := "forwardKnown", fn := fun _ => fun
  | [] => { results := [.lit (.bool true)], args := [] }
  | _ => none }
def forwardKnownRow : OpenClaim := { program := "ythlohgldcnicbaa", sum := "2aedafa96f0fe8d3dd6bc439e1ed3f6eaef437309dd81ddbf1ad9dafe88b8211", func := "culvert/culvertlaw14.ForwardKnown", spec := "forwardKnown", unfollowed := true, recurses := true, plainKeys := false, apart := false }
def ForwardKnownSaid : Prop := forwardKnownRow.holds Try.pinned (OpenSpec.ofChange forwardKnownSpec)

/-- ITS FALSE NEIGHBOUR: 'it returns false'. Refute it at one input. -/
def forwardKnownWrong : ChangeSpec := { name := "forwardKnown", fn := fun _ => fun
  | [] => { results := [.lit (.bool false)], args := [] }
  | _ => none }
def ForwardKnownWrongFalsely : Prop := forwardKnownRow.holds Try.pinned (OpenSpec.ofChange forwardKnownWrong)

/-- 'culvertlaw14.ForwardBack': WHATEVER THE INPUT: true; the input reads as it did. -/
def forwardBackSpec : ChangeSpec := { name := "forwardBack", fn := fun _ => fun
  | [d1, d2, d3] => { results := [.lit (.bool true)], args := [d1, d2, d3] }
  | _ => none }
def forwardBackRow : OpenClaim := { program := "ythlohgldcnicbaa", sum := "2aedafa96f0fe8d3dd6bc439e1ed3f6eaef437309dd81ddbf1ad9dafe88b8211", func := "culvert/culvertlaw14.ForwardBack", spec := "forwardBack", unfollowed := true, recurses := true, plainKeys := false, apart := false }
def ForwardBackSaid : Prop := forwardBackRow.holds Try.pinned (OpenSpec.ofChange forwardBackSpec)

/-- ITS FALSE NEIGHBOUR: 'it returns false'. Refute it at one input. -/
def forwardBackWrong : ChangeSpec := { name := "forwardBack", fn := fun _ => fun
  | [d1, d2, d3] => { results := [.lit (.bool false)], args := [d1, d2, d3] }
  | _ => none }
def ForwardBackWrongFalsely : Prop := forwardBackRow.holds Try.pinned (OpenSpec.ofChange forwardBackWrong)

/- THE SECOND FORM. 'bulk': how many values and letters a reading holds, each counted each time it is reached (what is shared counts as often as it is met; a slice's spare places count too). A statement '..UptoSaid' is the law's where the arguments, and the package variables that the reading takes, are together of bulk at most 1048576: NARROWER than '..Said'. Prove '..Said' where nothing that the law and all that it calls make is longer than what came in: it says more and counts as full. Else prove '..UptoSaid'. A law counts once. -/
mutual
def uptoBulk {H : Type} : DataW H → Nat
  | .lit (.string bytes) => bytes.length + 1
  | .lit _ => 1
  | .nil => 1
  | .ptr d => uptoBulk d + 1
  | .slice elems spare => uptoBulkAll elems + uptoBulkAll spare + 1
  | .agg parts => uptoBulkAll parts + 1
  | .iface _ d => uptoBulk d + 1
  | .map entries => uptoBulkEntries entries + 1
  | .held _ => 1
def uptoBulkAll {H : Type} : List (DataW H) → Nat
  | [] => 0
  | d :: r => uptoBulk d + uptoBulkAll r
def uptoBulkEntries {H : Type} : List (Lit × DataW H) → Nat
  | [] => 0
  | x :: r => uptoBulkEntry x + uptoBulkEntries r
def uptoBulkEntry {H : Type} : Lit × DataW H → Nat
  | (.string bytes, d) => bytes.length + uptoBulk d + 1
  | (_, d) => uptoBulk d + 1
 end
def uptoSmall : (H : Type) → List (DataW H) → Bool := fun _ ds => decide (uptoBulkAll ds ≤ 1048576)
def OpenSpec.upto (s : _root_.Go.ChangeSpec) : _root_.Go.OpenSpec := { _root_.Go.OpenSpec.ofChange s with cond := some uptoSmall }

/-- 'culvertlaw14.ForwardLess', WHERE WHAT IT READS IS OF BULK AT MOST 1048576: true; the input reads as it did. -/
def forwardLessUptoRow : OpenClaim := { program := "ythlohgldcnicbaa", sum := "2aedafa96f0fe8d3dd6bc439e1ed3f6eaef437309dd81ddbf1ad9dafe88b8211", func := "culvert/culvertlaw14.ForwardLess", spec := "forwardLess", unfollowed := true, recurses := true, plainKeys := false, apart := false, narrowed := true }
def ForwardLessUptoSaid : Prop := forwardLessUptoRow.holds Try.pinned (OpenSpec.upto forwardLessSpec)

/-- 'culvertlaw14.ForwardCalls', WHERE WHAT IT READS IS OF BULK AT MOST 1048576: true; the input reads as it did. -/
def forwardCallsUptoRow : OpenClaim := { program := "ythlohgldcnicbaa", sum := "2aedafa96f0fe8d3dd6bc439e1ed3f6eaef437309dd81ddbf1ad9dafe88b8211", func := "culvert/culvertlaw14.ForwardCalls", spec := "forwardCalls", unfollowed := true, recurses := true, plainKeys := false, apart := false, narrowed := true }
def ForwardCallsUptoSaid : Prop := forwardCallsUptoRow.holds Try.pinned (OpenSpec.upto forwardCallsSpec)

/-- 'culvertlaw14.ForwardKnown', WHERE WHAT IT READS IS OF BULK AT MOST 1048576: true; the input reads as it did. -/
def forwardKnownUptoRow : OpenClaim := { program := "ythlohgldcnicbaa", sum := "2aedafa96f0fe8d3dd6bc439e1ed3f6eaef437309dd81ddbf1ad9dafe88b8211", func := "culvert/culvertlaw14.ForwardKnown", spec := "forwardKnown", unfollowed := true, recurses := true, plainKeys := false, apart := false, narrowed := true }
def ForwardKnownUptoSaid : Prop := forwardKnownUptoRow.holds Try.pinned (OpenSpec.upto forwardKnownSpec)

/-- 'culvertlaw14.ForwardBack', WHERE WHAT IT READS IS OF BULK AT MOST 1048576: true; the input reads as it did. -/
def forwardBackUptoRow : OpenClaim := { program := "ythlohgldcnicbaa", sum := "2aedafa96f0fe8d3dd6bc439e1ed3f6eaef437309dd81ddbf1ad9dafe88b8211", func := "culvert/culvertlaw14.ForwardBack", spec := "forwardBack", unfollowed := true, recurses := true, plainKeys := false, apart := false, narrowed := true }
def ForwardBackUptoSaid : Prop := forwardBackUptoRow.holds Try.pinned (OpenSpec.upto forwardBackSpec)

end Rows
end Go.Proofs.Ythlohgldcnicbaa
