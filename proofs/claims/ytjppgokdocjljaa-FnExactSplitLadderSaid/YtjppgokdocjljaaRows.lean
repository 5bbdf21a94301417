/-
  No cell of these rows narrows 'for every input' (looked for: loops, veiled, ifaces, maps, wideKeys, modest, calm, conditions, laid).
  DERIVED. THE GIVEN ROWS OF THIS SEAT. 9 by the template 'for every input the law returns true; each argument reads behind the call as it read before'; 0 by the template 'total and deterministic' (their statements: YtjppgokdocjljaaTotals.lean).
  GIVEN WITH THE SEED: the statements are not yours to turn. If you find one false, say at which input.
  Laid BY PROGRAM, IN A SANDBOX (cutbox-rows.mjs): the forced cells as the released guide's own fill.sh prints them over the translation 2fdde4becad70c73… (all of the seat's roots in one cut). By AI agents, Wed Nov 11 2026. No macro, syntax, notation, axiom, sorry.
-/
import Derived.Test.YtjppgokdocjljaaChecked
import GoSem.Claim
import GoSem.ClaimJoined
import GoSem.ClaimMapViews
import Derived.JoinedTies
import Derived.KernelRfl
namespace Go.Proofs.Ytjppgokdocjljaa
/- THE CELL 'sum', in the pinned program and in every row, IS THE sha256 OF THE DUMP (.gsa) THAT YtjppgokdocjljaaProg.lean LOADS. Nothing in Lean hashes anything: it is a label: what it is worth is what the hold of that sum in a sandbox is worth. -/
noncomputable def Try.pinned : Pinned := { name := "ytjppgokdocjljaa", sum := "2fdde4becad70c7355f5da96e35e5d29227196d44ba1fbd8959f61809b3b91f1", checked := Try.checked }
namespace Rows
def none {H : Type} : Left H := { results := [], args := [] }

/-- 'laws.FnExactLastWins': WHATEVER THE INPUT: true; the input reads as it did. -/
def fnExactLastWinsSpec : ChangeSpec := { name := "fnExactLastWins", fn := fun _ => fun
  | [d] => { results := [.lit (.bool true)], args := [d] }
  | _ => none }
def fnExactLastWinsRow : OpenClaim := { program := "ytjppgokdocjljaa", sum := "2fdde4becad70c7355f5da96e35e5d29227196d44ba1fbd8959f61809b3b91f1", func := "loop.example/g01209/laws.FnExactLastWins", spec := "fnExactLastWins", unfollowed := true, recurses := true, apart := false }
def FnExactLastWinsSaid : Prop := fnExactLastWinsRow.holds Try.pinned (OpenSpec.ofChange fnExactLastWinsSpec)

/-- ITS FALSE NEIGHBOUR: 'it returns false'. Refute it at one input. -/
def fnExactLastWinsWrong : ChangeSpec := { name := "fnExactLastWins", fn := fun _ => fun
  | [d] => { results := [.lit (.bool false)], args := [d] }
  | _ => none }
def FnExactLastWinsWrongFalsely : Prop := fnExactLastWinsRow.holds Try.pinned (OpenSpec.ofChange fnExactLastWinsWrong)

/-- 'laws.FnExactRungsOn': WHATEVER THE INPUT: true; the input reads as it did. -/
def fnExactRungsOnSpec : ChangeSpec := { name := "fnExactRungsOn", fn := fun _ => fun
  | [d] => { results := [.lit (.bool true)], args := [d] }
  | _ => none }
def fnExactRungsOnRow : OpenClaim := { program := "ytjppgokdocjljaa", sum := "2fdde4becad70c7355f5da96e35e5d29227196d44ba1fbd8959f61809b3b91f1", func := "loop.example/g01209/laws.FnExactRungsOn", spec := "fnExactRungsOn", unfollowed := true, recurses := true, apart := false }
def FnExactRungsOnSaid : Prop := fnExactRungsOnRow.holds Try.pinned (OpenSpec.ofChange fnExactRungsOnSpec)

/-- ITS FALSE NEIGHBOUR: 'it returns false'. Refute it at one input. -/
def fnExactRungsOnWrong : ChangeSpec := { name := "fnExactRungsOn", fn := fun _ => fun
  | [d] => { results := [.lit (.bool false)], args := [d] }
  | _ => none }
def FnExactRungsOnWrongFalsely : Prop := fnExactRungsOnRow.holds Try.pinned (OpenSpec.ofChange fnExactRungsOnWrong)

/-- 'laws.FnExactBrickOrder': WHATEVER THE INPUT: true; the input reads as it did. -/
def fnExactBrickOrderSpec : ChangeSpec := { name := "fnExactBrickOrder", fn := fun _ => fun
  | [d1, d2] => { results := [.lit (.bool true)], args := [d1, d2] }
  | _ => none }
def fnExactBrickOrderRow : OpenClaim := { program := "ytjppgokdocjljaa", sum := "2fdde4becad70c7355f5da96e35e5d29227196d44ba1fbd8959f61809b3b91f1", func := "loop.example/g01209/laws.FnExactBrickOrder", spec := "fnExactBrickOrder", unfollowed := true, recurses := true, apart := false }
def FnExactBrickOrderSaid : Prop := fnExactBrickOrderRow.holds Try.pinned (OpenSpec.ofChange fnExactBrickOrderSpec)

/-- ITS FALSE NEIGHBOUR: 'it returns false'. Refute it at one input. -/
def fnExactBrickOrderWrong : ChangeSpec := { name := "fnExactBrickOrder", fn := fun _ => fun
  | [d1, d2] => { results := [.lit (.bool false)], args := [d1, d2] }
  | _ => none }
def FnExactBrickOrderWrongFalsely : Prop := fnExactBrickOrderRow.holds Try.pinned (OpenSpec.ofChange fnExactBrickOrderWrong)

/-- 'laws.FnExactStaysOn': WHATEVER THE INPUT: true; the input reads as it did. -/
def fnExactStaysOnSpec : ChangeSpec := { name := "fnExactStaysOn", fn := fun _ => fun
  | [d] => { results := [.lit (.bool true)], args := [d] }
  | _ => none }
def fnExactStaysOnRow : OpenClaim := { program := "ytjppgokdocjljaa", sum := "2fdde4becad70c7355f5da96e35e5d29227196d44ba1fbd8959f61809b3b91f1", func := "loop.example/g01209/laws.FnExactStaysOn", spec := "fnExactStaysOn", unfollowed := true, recurses := true, apart := false }
def FnExactStaysOnSaid : Prop := fnExactStaysOnRow.holds Try.pinned (OpenSpec.ofChange fnExactStaysOnSpec)

/-- ITS FALSE NEIGHBOUR: 'it returns false'. Refute it at one input. -/
def fnExactStaysOnWrong : ChangeSpec := { name := "fnExactStaysOn", fn := fun _ => fun
  | [d] => { results := [.lit (.bool false)], args := [d] }
  | _ => none }
def FnExactStaysOnWrongFalsely : Prop := fnExactStaysOnRow.holds Try.pinned (OpenSpec.ofChange fnExactStaysOnWrong)

/-- 'laws.FnExactThroughWire': WHATEVER THE INPUT: true; the input reads as it did. -/
def fnExactThroughWireSpec : ChangeSpec := { name := "fnExactThroughWire", fn := fun _ => fun
  | [d1, d2] => { results := [.lit (.bool true)], args := [d1, d2] }
  | _ => none }
def fnExactThroughWireRow : OpenClaim := { program := "ytjppgokdocjljaa", sum := "2fdde4becad70c7355f5da96e35e5d29227196d44ba1fbd8959f61809b3b91f1", func := "loop.example/g01209/laws.FnExactThroughWire", spec := "fnExactThroughWire", unfollowed := true, recurses := true, apart := false }
def FnExactThroughWireSaid : Prop := fnExactThroughWireRow.holds Try.pinned (OpenSpec.ofChange fnExactThroughWireSpec)

/-- ITS FALSE NEIGHBOUR: 'it returns false'. Refute it at one input. -/
def fnExactThroughWireWrong : ChangeSpec := { name := "fnExactThroughWire", fn := fun _ => fun
  | [d1, d2] => { results := [.lit (.bool false)], args := [d1, d2] }
  | _ => none }
def FnExactThroughWireWrongFalsely : Prop := fnExactThroughWireRow.holds Try.pinned (OpenSpec.ofChange fnExactThroughWireWrong)

/-- 'laws.FnExactLastMoves': WHATEVER THE INPUT: true; the input reads as it did. -/
def fnExactLastMovesSpec : ChangeSpec := { name := "fnExactLastMoves", fn := fun _ => fun
  | [d] => { results := [.lit (.bool true)], args := [d] }
  | _ => none }
def fnExactLastMovesRow : OpenClaim := { program := "ytjppgokdocjljaa", sum := "2fdde4becad70c7355f5da96e35e5d29227196d44ba1fbd8959f61809b3b91f1", func := "loop.example/g01209/laws.FnExactLastMoves", spec := "fnExactLastMoves", unfollowed := true, recurses := true, apart := false }
def FnExactLastMovesSaid : Prop := fnExactLastMovesRow.holds Try.pinned (OpenSpec.ofChange fnExactLastMovesSpec)

/-- ITS FALSE NEIGHBOUR: 'it returns false'. Refute it at one input. -/
def fnExactLastMovesWrong : ChangeSpec := { name := "fnExactLastMoves", fn := fun _ => fun
  | [d] => { results := [.lit (.bool false)], args := [d] }
  | _ => none }
def FnExactLastMovesWrongFalsely : Prop := fnExactLastMovesRow.holds Try.pinned (OpenSpec.ofChange fnExactLastMovesWrong)

/-- 'laws.FnExactKeepStarts': WHATEVER THE INPUT: true; the input reads as it did. -/
def fnExactKeepStartsSpec : ChangeSpec := { name := "fnExactKeepStarts", fn := fun _ => fun
  | [d1, d2] => { results := [.lit (.bool true)], args := [d1, d2] }
  | _ => none }
def fnExactKeepStartsRow : OpenClaim := { program := "ytjppgokdocjljaa", sum := "2fdde4becad70c7355f5da96e35e5d29227196d44ba1fbd8959f61809b3b91f1", func := "loop.example/g01209/laws.FnExactKeepStarts", spec := "fnExactKeepStarts", unfollowed := true, recurses := true, apart := false }
def FnExactKeepStartsSaid : Prop := fnExactKeepStartsRow.holds Try.pinned (OpenSpec.ofChange fnExactKeepStartsSpec)

/-- ITS FALSE NEIGHBOUR: 'it returns false'. Refute it at one input. -/
def fnExactKeepStartsWrong : ChangeSpec := { name := "fnExactKeepStarts", fn := fun _ => fun
  | [d1, d2] => { results := [.lit (.bool false)], args := [d1, d2] }
  | _ => none }
def FnExactKeepStartsWrongFalsely : Prop := fnExactKeepStartsRow.holds Try.pinned (OpenSpec.ofChange fnExactKeepStartsWrong)

/-- 'laws.FnExactSplitLadder': WHATEVER THE INPUT: true; the input reads as it did. -/
def fnExactSplitLadderSpec : ChangeSpec := { name := "fnExactSplitLadder", fn := fun _ => fun
  | [d] => { results := [.lit (.bool true)], args := [d] }
  | _ => none }
def fnExactSplitLadderRow : OpenClaim := { program := "ytjppgokdocjljaa", sum := "2fdde4becad70c7355f5da96e35e5d29227196d44ba1fbd8959f61809b3b91f1", func := "loop.example/g01209/laws.FnExactSplitLadder", spec := "fnExactSplitLadder", unfollowed := true, recurses := true, apart := false }
def FnExactSplitLadderSaid : Prop := fnExactSplitLadderRow.holds Try.pinned (OpenSpec.ofChange fnExactSplitLadderSpec)

/-- ITS FALSE NEIGHBOUR: 'it returns false'. Refute it at one input. -/
def fnExactSplitLadderWrong : ChangeSpec := { name := "fnExactSplitLadder", fn := fun _ => fun
  | [d] => { results := [.lit (.bool false)], args := [d] }
  | _ => none }
def FnExactSplitLadderWrongFalsely : Prop := fnExactSplitLadderRow.holds Try.pinned (OpenSpec.ofChange fnExactSplitLadderWrong)

/-- 'laws.FnExactMeetingTable': WHATEVER THE INPUT: true; the input reads as it did. -/
def fnExactMeetingTableSpec : ChangeSpec := { name := "fnExactMeetingTable", fn := fun _ => fun
  | [d] => { results := [.lit (.bool true)], args := [d] }
  | _ => none }
def fnExactMeetingTableRow : OpenClaim := { program := "ytjppgokdocjljaa", sum := "2fdde4becad70c7355f5da96e35e5d29227196d44ba1fbd8959f61809b3b91f1", func := "loop.example/g01209/laws.FnExactMeetingTable", spec := "fnExactMeetingTable", unfollowed := true, recurses := true, apart := false }
def FnExactMeetingTableSaid : Prop := fnExactMeetingTableRow.holds Try.pinned (OpenSpec.ofChange fnExactMeetingTableSpec)

/-- ITS FALSE NEIGHBOUR: 'it returns false'. Refute it at one input. -/
def fnExactMeetingTableWrong : ChangeSpec := { name := "fnExactMeetingTable", fn := fun _ => fun
  | [d] => { results := [.lit (.bool false)], args := [d] }
  | _ => none }
def FnExactMeetingTableWrongFalsely : Prop := fnExactMeetingTableRow.holds Try.pinned (OpenSpec.ofChange fnExactMeetingTableWrong)

/- THE SECOND FORM. 'bulk': how many values and letters a reading holds, each counted each time it is reached (what is shared counts as often as it is met; a slice's spare places count too). A statement '..UptoSaid' is the law's where the arguments, and the package variables that the reading takes, are together of bulk at most 1048576: NARROWER than '..Said'. Prove '..Said' where nothing that the law and all that it calls make is longer than what came in: it says more and counts as full. Else prove '..UptoSaid'. A law counts once. -/
mutual
def uptoBulk {H : Type} : DataW H → Nat
  | .lit (.string bytes) => bytes.length + 1
  | .lit _ => 1
  | .nil => 1
  | .ptr d => uptoBulk d + 1
  | .slice elems spare => uptoBulkAll elems + uptoBulkAll spare + 1
  | .agg parts => uptoBulkAll parts + 1
  | .iface _ d => uptoBulk d + 1
  | .map entries => uptoBulkEntries entries + 1
  | .held _ => 1
def uptoBulkAll {H : Type} : List (DataW H) → Nat
  | [] => 0
  | d :: r => uptoBulk d + uptoBulkAll r
def uptoBulkEntries {H : Type} : List (Lit × DataW H) → Nat
  | [] => 0
  | x :: r => uptoBulkEntry x + uptoBulkEntries r
def uptoBulkEntry {H : Type} : Lit × DataW H → Nat
  | (.string bytes, d) => bytes.length + uptoBulk d + 1
  | (_, d) => uptoBulk d + 1
 end
def uptoSmall : (H : Type) → List (DataW H) → Bool := fun _ ds => decide (uptoBulkAll ds ≤ 1048576)
def OpenSpec.upto (s : _root_.Go.ChangeSpec) : _root_.Go.OpenSpec := { _root_.Go.OpenSpec.ofChange s with cond := some uptoSmall }

/-- 'laws.FnExactLastWins', WHERE WHAT IT READS IS OF BULK AT MOST 1048576: true; the input reads as it did. -/
def fnExactLastWinsUptoRow : OpenClaim := { program := "ytjppgokdocjljaa", sum := "2fdde4becad70c7355f5da96e35e5d29227196d44ba1fbd8959f61809b3b91f1", func := "loop.example/g01209/laws.FnExactLastWins", spec := "fnExactLastWins", unfollowed := true, recurses := true, apart := false, narrowed := true }
def FnExactLastWinsUptoSaid : Prop := fnExactLastWinsUptoRow.holds Try.pinned (OpenSpec.upto fnExactLastWinsSpec)

/-- 'laws.FnExactRungsOn', WHERE WHAT IT READS IS OF BULK AT MOST 1048576: true; the input reads as it did. -/
def fnExactRungsOnUptoRow : OpenClaim := { program := "ytjppgokdocjljaa", sum := "2fdde4becad70c7355f5da96e35e5d29227196d44ba1fbd8959f61809b3b91f1", func := "loop.example/g01209/laws.FnExactRungsOn", spec := "fnExactRungsOn", unfollowed := true, recurses := true, apart := false, narrowed := true }
def FnExactRungsOnUptoSaid : Prop := fnExactRungsOnUptoRow.holds Try.pinned (OpenSpec.upto fnExactRungsOnSpec)

/-- 'laws.FnExactBrickOrder', WHERE WHAT IT READS IS OF BULK AT MOST 1048576: true; the input reads as it did. -/
def fnExactBrickOrderUptoRow : OpenClaim := { program := "ytjppgokdocjljaa", sum := "2fdde4becad70c7355f5da96e35e5d29227196d44ba1fbd8959f61809b3b91f1", func := "loop.example/g01209/laws.FnExactBrickOrder", spec := "fnExactBrickOrder", unfollowed := true, recurses := true, apart := false, narrowed := true }
def FnExactBrickOrderUptoSaid : Prop := fnExactBrickOrderUptoRow.holds Try.pinned (OpenSpec.upto fnExactBrickOrderSpec)

/-- 'laws.FnExactStaysOn', WHERE WHAT IT READS IS OF BULK AT MOST 1048576: true; the input reads as it did. -/
def fnExactStaysOnUptoRow : OpenClaim := { program := "ytjppgokdocjljaa", sum := "2fdde4becad70c7355f5da96e35e5d29227196d44ba1fbd8959f61809b3b91f1", func := "loop.example/g01209/laws.FnExactStaysOn", spec := "fnExactStaysOn", unfollowed := true, recurses := true, apart := false, narrowed := true }
def FnExactStaysOnUptoSaid : Prop := fnExactStaysOnUptoRow.holds Try.pinned (OpenSpec.upto fnExactStaysOnSpec)

/-- 'laws.FnExactThroughWire', WHERE WHAT IT READS IS OF BULK AT MOST 1048576: true; the input reads as it did. -/
def fnExactThroughWireUptoRow : OpenClaim := { program := "ytjppgokdocjljaa", sum := "2fdde4becad70c7355f5da96e35e5d29227196d44ba1fbd8959f61809b3b91f1", func := "loop.example/g01209/laws.FnExactThroughWire", spec := "fnExactThroughWire", unfollowed := true, recurses := true, apart := false, narrowed := true }
def FnExactThroughWireUptoSaid : Prop := fnExactThroughWireUptoRow.holds Try.pinned (OpenSpec.upto fnExactThroughWireSpec)

/-- 'laws.FnExactLastMoves', WHERE WHAT IT READS IS OF BULK AT MOST 1048576: true; the input reads as it did. -/
def fnExactLastMovesUptoRow : OpenClaim := { program := "ytjppgokdocjljaa", sum := "2fdde4becad70c7355f5da96e35e5d29227196d44ba1fbd8959f61809b3b91f1", func := "loop.example/g01209/laws.FnExactLastMoves", spec := "fnExactLastMoves", unfollowed := true, recurses := true, apart := false, narrowed := true }
def FnExactLastMovesUptoSaid : Prop := fnExactLastMovesUptoRow.holds Try.pinned (OpenSpec.upto fnExactLastMovesSpec)

/-- 'laws.FnExactKeepStarts', WHERE WHAT IT READS IS OF BULK AT MOST 1048576: true; the input reads as it did. -/
def fnExactKeepStartsUptoRow : OpenClaim := { program := "ytjppgokdocjljaa", sum := "2fdde4becad70c7355f5da96e35e5d29227196d44ba1fbd8959f61809b3b91f1", func := "loop.example/g01209/laws.FnExactKeepStarts", spec := "fnExactKeepStarts", unfollowed := true, recurses := true, apart := false, narrowed := true }
def FnExactKeepStartsUptoSaid : Prop := fnExactKeepStartsUptoRow.holds Try.pinned (OpenSpec.upto fnExactKeepStartsSpec)

/-- 'laws.FnExactSplitLadder', WHERE WHAT IT READS IS OF BULK AT MOST 1048576: true; the input reads as it did. -/
def fnExactSplitLadderUptoRow : OpenClaim := { program := "ytjppgokdocjljaa", sum := "2fdde4becad70c7355f5da96e35e5d29227196d44ba1fbd8959f61809b3b91f1", func := "loop.example/g01209/laws.FnExactSplitLadder", spec := "fnExactSplitLadder", unfollowed := true, recurses := true, apart := false, narrowed := true }
def FnExactSplitLadderUptoSaid : Prop := fnExactSplitLadderUptoRow.holds Try.pinned (OpenSpec.upto fnExactSplitLadderSpec)

/-- 'laws.FnExactMeetingTable', WHERE WHAT IT READS IS OF BULK AT MOST 1048576: true; the input reads as it did. -/
def fnExactMeetingTableUptoRow : OpenClaim := { program := "ytjppgokdocjljaa", sum := "2fdde4becad70c7355f5da96e35e5d29227196d44ba1fbd8959f61809b3b91f1", func := "loop.example/g01209/laws.FnExactMeetingTable", spec := "fnExactMeetingTable", unfollowed := true, recurses := true, apart := false, narrowed := true }
def FnExactMeetingTableUptoSaid : Prop := fnExactMeetingTableUptoRow.holds Try.pinned (OpenSpec.upto fnExactMeetingTableSpec)

end Rows
end Go.Proofs.Ytjppgokdocjljaa
