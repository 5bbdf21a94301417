/-
  No cell of these rows narrows 'for every input' (looked for: loops, veiled, ifaces, maps, wideKeys, modest, calm, conditions, laid).
  DERIVED. THE GIVEN ROWS OF THIS SEAT. 12 by the template 'for every input the law returns true; each argument reads behind the call as it read before'; 0 by the template 'total and deterministic' (their statements: YthpdhoplddlieaaTotals.lean).
  GIVEN WITH THE SEED: the statements are not yours to turn. If you find one false, say at which input.
  Laid BY PROGRAM, IN A SANDBOX (cutbox-rows.mjs): the forced cells as the released guide's own fill.sh prints them over the translation 7a2ccfbb7a9eed60… (all of the seat's roots in one cut). By AI agents, Wed Nov 11 2026. No macro, syntax, notation, axiom, sorry.
-/
import Derived.Test.YthpdhoplddlieaaChecked
import GoSem.Claim
import GoSem.ClaimJoined
import GoSem.ClaimMapViews
import Derived.JoinedTies
import Derived.KernelRfl
namespace Go.Proofs.Ythpdhoplddlieaa
/- THE CELL 'sum', in the pinned program and in every row, IS THE sha256 OF THE DUMP (.gsa) THAT YthpdhoplddlieaaProg.lean LOADS. Nothing in Lean hashes anything: it is a label: what it is worth is what the hold of that sum in a sandbox is worth. -/
noncomputable def Try.pinned : Pinned := { name := "ythpdhoplddlieaa", sum := "7a2ccfbb7a9eed609dbc567b10fc879253528c63fc9cb23aaf2abd99d4cf2598", checked := Try.checked }
namespace Rows
def none {H : Type} : Left H := { results := [], args := [] }

/-- 'laws.FnExactIsSplit': WHATEVER THE INPUT: true; the input reads as it did. -/
def fnExactIsSplitSpec : ChangeSpec := { name := "fnExactIsSplit", fn := fun _ => fun
  | [d1, d2] => { results := [.lit (.bool true)], args := [d1, d2] }
  | _ => none }
def fnExactIsSplitRow : OpenClaim := { program := "ythpdhoplddlieaa", sum := "7a2ccfbb7a9eed609dbc567b10fc879253528c63fc9cb23aaf2abd99d4cf2598", func := "loop.example/g01209/laws.FnExactIsSplit", spec := "fnExactIsSplit", unfollowed := true, recurses := true, apart := false }
def FnExactIsSplitSaid : Prop := fnExactIsSplitRow.holds Try.pinned (OpenSpec.ofChange fnExactIsSplitSpec)

/-- ITS FALSE NEIGHBOUR: 'it returns false'. Refute it at one input. -/
def fnExactIsSplitWrong : ChangeSpec := { name := "fnExactIsSplit", fn := fun _ => fun
  | [d1, d2] => { results := [.lit (.bool false)], args := [d1, d2] }
  | _ => none }
def FnExactIsSplitWrongFalsely : Prop := fnExactIsSplitRow.holds Try.pinned (OpenSpec.ofChange fnExactIsSplitWrong)

/-- 'laws.FnExactPlacesWon': WHATEVER THE INPUT: true; the input reads as it did. -/
def fnExactPlacesWonSpec : ChangeSpec := { name := "fnExactPlacesWon", fn := fun _ => fun
  | [d1, d2, d3] => { results := [.lit (.bool true)], args := [d1, d2, d3] }
  | _ => none }
def fnExactPlacesWonRow : OpenClaim := { program := "ythpdhoplddlieaa", sum := "7a2ccfbb7a9eed609dbc567b10fc879253528c63fc9cb23aaf2abd99d4cf2598", func := "loop.example/g01209/laws.FnExactPlacesWon", spec := "fnExactPlacesWon", recurses := true, apart := false }
def FnExactPlacesWonSaid : Prop := fnExactPlacesWonRow.holds Try.pinned (OpenSpec.ofChange fnExactPlacesWonSpec)

/-- ITS FALSE NEIGHBOUR: 'it returns false'. Refute it at one input. -/
def fnExactPlacesWonWrong : ChangeSpec := { name := "fnExactPlacesWon", fn := fun _ => fun
  | [d1, d2, d3] => { results := [.lit (.bool false)], args := [d1, d2, d3] }
  | _ => none }
def FnExactPlacesWonWrongFalsely : Prop := fnExactPlacesWonRow.holds Try.pinned (OpenSpec.ofChange fnExactPlacesWonWrong)

/-- 'laws.FnExactGoodPlaces': WHATEVER THE INPUT: true; the input reads as it did. -/
def fnExactGoodPlacesSpec : ChangeSpec := { name := "fnExactGoodPlaces", fn := fun _ => fun
  | [d1, d2, d3, d4] => { results := [.lit (.bool true)], args := [d1, d2, d3, d4] }
  | _ => none }
def fnExactGoodPlacesRow : OpenClaim := { program := "ythpdhoplddlieaa", sum := "7a2ccfbb7a9eed609dbc567b10fc879253528c63fc9cb23aaf2abd99d4cf2598", func := "loop.example/g01209/laws.FnExactGoodPlaces", spec := "fnExactGoodPlaces", recurses := true, apart := false }
def FnExactGoodPlacesSaid : Prop := fnExactGoodPlacesRow.holds Try.pinned (OpenSpec.ofChange fnExactGoodPlacesSpec)

/-- ITS FALSE NEIGHBOUR: 'it returns false'. Refute it at one input. -/
def fnExactGoodPlacesWrong : ChangeSpec := { name := "fnExactGoodPlaces", fn := fun _ => fun
  | [d1, d2, d3, d4] => { results := [.lit (.bool false)], args := [d1, d2, d3, d4] }
  | _ => none }
def FnExactGoodPlacesWrongFalsely : Prop := fnExactGoodPlacesRow.holds Try.pinned (OpenSpec.ofChange fnExactGoodPlacesWrong)

/-- 'laws.FnExactBrickLadder': WHATEVER THE INPUT: true; the input reads as it did. -/
def fnExactBrickLadderSpec : ChangeSpec := { name := "fnExactBrickLadder", fn := fun _ => fun
  | [d1, d2] => { results := [.lit (.bool true)], args := [d1, d2] }
  | _ => none }
def fnExactBrickLadderRow : OpenClaim := { program := "ythpdhoplddlieaa", sum := "7a2ccfbb7a9eed609dbc567b10fc879253528c63fc9cb23aaf2abd99d4cf2598", func := "loop.example/g01209/laws.FnExactBrickLadder", spec := "fnExactBrickLadder", unfollowed := true, recurses := true, apart := false }
def FnExactBrickLadderSaid : Prop := fnExactBrickLadderRow.holds Try.pinned (OpenSpec.ofChange fnExactBrickLadderSpec)

/-- ITS FALSE NEIGHBOUR: 'it returns false'. Refute it at one input. -/
def fnExactBrickLadderWrong : ChangeSpec := { name := "fnExactBrickLadder", fn := fun _ => fun
  | [d1, d2] => { results := [.lit (.bool false)], args := [d1, d2] }
  | _ => none }
def FnExactBrickLadderWrongFalsely : Prop := fnExactBrickLadderRow.holds Try.pinned (OpenSpec.ofChange fnExactBrickLadderWrong)

/-- 'laws.FnExactDoubleLadder': WHATEVER THE INPUT: true; the input reads as it did. -/
def fnExactDoubleLadderSpec : ChangeSpec := { name := "fnExactDoubleLadder", fn := fun _ => fun
  | [d] => { results := [.lit (.bool true)], args := [d] }
  | _ => none }
def fnExactDoubleLadderRow : OpenClaim := { program := "ythpdhoplddlieaa", sum := "7a2ccfbb7a9eed609dbc567b10fc879253528c63fc9cb23aaf2abd99d4cf2598", func := "loop.example/g01209/laws.FnExactDoubleLadder", spec := "fnExactDoubleLadder", unfollowed := true, recurses := true, apart := false }
def FnExactDoubleLadderSaid : Prop := fnExactDoubleLadderRow.holds Try.pinned (OpenSpec.ofChange fnExactDoubleLadderSpec)

/-- ITS FALSE NEIGHBOUR: 'it returns false'. Refute it at one input. -/
def fnExactDoubleLadderWrong : ChangeSpec := { name := "fnExactDoubleLadder", fn := fun _ => fun
  | [d] => { results := [.lit (.bool false)], args := [d] }
  | _ => none }
def FnExactDoubleLadderWrongFalsely : Prop := fnExactDoubleLadderRow.holds Try.pinned (OpenSpec.ofChange fnExactDoubleLadderWrong)

/-- 'laws.FnExactPatternOf': WHATEVER THE INPUT: true; the input reads as it did. -/
def fnExactPatternOfSpec : ChangeSpec := { name := "fnExactPatternOf", fn := fun _ => fun
  | [d1, d2] => { results := [.lit (.bool true)], args := [d1, d2] }
  | _ => none }
def fnExactPatternOfRow : OpenClaim := { program := "ythpdhoplddlieaa", sum := "7a2ccfbb7a9eed609dbc567b10fc879253528c63fc9cb23aaf2abd99d4cf2598", func := "loop.example/g01209/laws.FnExactPatternOf", spec := "fnExactPatternOf", apart := false }
def FnExactPatternOfSaid : Prop := fnExactPatternOfRow.holds Try.pinned (OpenSpec.ofChange fnExactPatternOfSpec)

/-- ITS FALSE NEIGHBOUR: 'it returns false'. Refute it at one input. -/
def fnExactPatternOfWrong : ChangeSpec := { name := "fnExactPatternOf", fn := fun _ => fun
  | [d1, d2] => { results := [.lit (.bool false)], args := [d1, d2] }
  | _ => none }
def FnExactPatternOfWrongFalsely : Prop := fnExactPatternOfRow.holds Try.pinned (OpenSpec.ofChange fnExactPatternOfWrong)

/-- 'laws.FnExactBesideLadders': WHATEVER THE INPUT: true; the input reads as it did. -/
def fnExactBesideLaddersSpec : ChangeSpec := { name := "fnExactBesideLadders", fn := fun _ => fun
  | [d1, d2] => { results := [.lit (.bool true)], args := [d1, d2] }
  | _ => none }
def fnExactBesideLaddersRow : OpenClaim := { program := "ythpdhoplddlieaa", sum := "7a2ccfbb7a9eed609dbc567b10fc879253528c63fc9cb23aaf2abd99d4cf2598", func := "loop.example/g01209/laws.FnExactBesideLadders", spec := "fnExactBesideLadders", unfollowed := true, recurses := true, apart := false }
def FnExactBesideLaddersSaid : Prop := fnExactBesideLaddersRow.holds Try.pinned (OpenSpec.ofChange fnExactBesideLaddersSpec)

/-- ITS FALSE NEIGHBOUR: 'it returns false'. Refute it at one input. -/
def fnExactBesideLaddersWrong : ChangeSpec := { name := "fnExactBesideLadders", fn := fun _ => fun
  | [d1, d2] => { results := [.lit (.bool false)], args := [d1, d2] }
  | _ => none }
def FnExactBesideLaddersWrongFalsely : Prop := fnExactBesideLaddersRow.holds Try.pinned (OpenSpec.ofChange fnExactBesideLaddersWrong)

/-- 'laws.FnExactPutWire': WHATEVER THE INPUT: true; the input reads as it did. -/
def fnExactPutWireSpec : ChangeSpec := { name := "fnExactPutWire", fn := fun _ => fun
  | [d1, d2] => { results := [.lit (.bool true)], args := [d1, d2] }
  | _ => none }
def fnExactPutWireRow : OpenClaim := { program := "ythpdhoplddlieaa", sum := "7a2ccfbb7a9eed609dbc567b10fc879253528c63fc9cb23aaf2abd99d4cf2598", func := "loop.example/g01209/laws.FnExactPutWire", spec := "fnExactPutWire", unfollowed := true, recurses := true, apart := false }
def FnExactPutWireSaid : Prop := fnExactPutWireRow.holds Try.pinned (OpenSpec.ofChange fnExactPutWireSpec)

/-- ITS FALSE NEIGHBOUR: 'it returns false'. Refute it at one input. -/
def fnExactPutWireWrong : ChangeSpec := { name := "fnExactPutWire", fn := fun _ => fun
  | [d1, d2] => { results := [.lit (.bool false)], args := [d1, d2] }
  | _ => none }
def FnExactPutWireWrongFalsely : Prop := fnExactPutWireRow.holds Try.pinned (OpenSpec.ofChange fnExactPutWireWrong)

/-- 'laws.FnExactCountPattern': WHATEVER THE INPUT: true; the input reads as it did. -/
def fnExactCountPatternSpec : ChangeSpec := { name := "fnExactCountPattern", fn := fun _ => fun
  | [d1, d2] => { results := [.lit (.bool true)], args := [d1, d2] }
  | _ => none }
def fnExactCountPatternRow : OpenClaim := { program := "ythpdhoplddlieaa", sum := "7a2ccfbb7a9eed609dbc567b10fc879253528c63fc9cb23aaf2abd99d4cf2598", func := "loop.example/g01209/laws.FnExactCountPattern", spec := "fnExactCountPattern", unfollowed := true, recurses := true, apart := false }
def FnExactCountPatternSaid : Prop := fnExactCountPatternRow.holds Try.pinned (OpenSpec.ofChange fnExactCountPatternSpec)

/-- ITS FALSE NEIGHBOUR: 'it returns false'. Refute it at one input. -/
def fnExactCountPatternWrong : ChangeSpec := { name := "fnExactCountPattern", fn := fun _ => fun
  | [d1, d2] => { results := [.lit (.bool false)], args := [d1, d2] }
  | _ => none }
def FnExactCountPatternWrongFalsely : Prop := fnExactCountPatternRow.holds Try.pinned (OpenSpec.ofChange fnExactCountPatternWrong)

/-- 'laws.FnExactIsTaking': WHATEVER THE INPUT: true; the input reads as it did. -/
def fnExactIsTakingSpec : ChangeSpec := { name := "fnExactIsTaking", fn := fun _ => fun
  | [d] => { results := [.lit (.bool true)], args := [d] }
  | _ => none }
def fnExactIsTakingRow : OpenClaim := { program := "ythpdhoplddlieaa", sum := "7a2ccfbb7a9eed609dbc567b10fc879253528c63fc9cb23aaf2abd99d4cf2598", func := "loop.example/g01209/laws.FnExactIsTaking", spec := "fnExactIsTaking", unfollowed := true, recurses := true, apart := false }
def FnExactIsTakingSaid : Prop := fnExactIsTakingRow.holds Try.pinned (OpenSpec.ofChange fnExactIsTakingSpec)

/-- ITS FALSE NEIGHBOUR: 'it returns false'. Refute it at one input. -/
def fnExactIsTakingWrong : ChangeSpec := { name := "fnExactIsTaking", fn := fun _ => fun
  | [d] => { results := [.lit (.bool false)], args := [d] }
  | _ => none }
def FnExactIsTakingWrongFalsely : Prop := fnExactIsTakingRow.holds Try.pinned (OpenSpec.ofChange fnExactIsTakingWrong)

/-- 'laws.FnExactBrickDepth': WHATEVER THE INPUT: true; the input reads as it did. -/
def fnExactBrickDepthSpec : ChangeSpec := { name := "fnExactBrickDepth", fn := fun _ => fun
  | [d] => { results := [.lit (.bool true)], args := [d] }
  | _ => none }
def fnExactBrickDepthRow : OpenClaim := { program := "ythpdhoplddlieaa", sum := "7a2ccfbb7a9eed609dbc567b10fc879253528c63fc9cb23aaf2abd99d4cf2598", func := "loop.example/g01209/laws.FnExactBrickDepth", spec := "fnExactBrickDepth", apart := false }
def FnExactBrickDepthSaid : Prop := fnExactBrickDepthRow.holds Try.pinned (OpenSpec.ofChange fnExactBrickDepthSpec)

/-- ITS FALSE NEIGHBOUR: 'it returns false'. Refute it at one input. -/
def fnExactBrickDepthWrong : ChangeSpec := { name := "fnExactBrickDepth", fn := fun _ => fun
  | [d] => { results := [.lit (.bool false)], args := [d] }
  | _ => none }
def FnExactBrickDepthWrongFalsely : Prop := fnExactBrickDepthRow.holds Try.pinned (OpenSpec.ofChange fnExactBrickDepthWrong)

/-- 'laws.FnExactTakeStart': WHATEVER THE INPUT: true; the input reads as it did. -/
def fnExactTakeStartSpec : ChangeSpec := { name := "fnExactTakeStart", fn := fun _ => fun
  | [d1, d2] => { results := [.lit (.bool true)], args := [d1, d2] }
  | _ => none }
def fnExactTakeStartRow : OpenClaim := { program := "ythpdhoplddlieaa", sum := "7a2ccfbb7a9eed609dbc567b10fc879253528c63fc9cb23aaf2abd99d4cf2598", func := "loop.example/g01209/laws.FnExactTakeStart", spec := "fnExactTakeStart", unfollowed := true, recurses := true, apart := false }
def FnExactTakeStartSaid : Prop := fnExactTakeStartRow.holds Try.pinned (OpenSpec.ofChange fnExactTakeStartSpec)

/-- ITS FALSE NEIGHBOUR: 'it returns false'. Refute it at one input. -/
def fnExactTakeStartWrong : ChangeSpec := { name := "fnExactTakeStart", fn := fun _ => fun
  | [d1, d2] => { results := [.lit (.bool false)], args := [d1, d2] }
  | _ => none }
def FnExactTakeStartWrongFalsely : Prop := fnExactTakeStartRow.holds Try.pinned (OpenSpec.ofChange fnExactTakeStartWrong)

/- THE SECOND FORM. 'bulk': how many values and letters a reading holds, each counted each time it is reached (what is shared counts as often as it is met; a slice's spare places count too). A statement '..UptoSaid' is the law's where the arguments, and the package variables that the reading takes, are together of bulk at most 1048576: NARROWER than '..Said'. Prove '..Said' where nothing that the law and all that it calls make is longer than what came in: it says more and counts as full. Else prove '..UptoSaid'. A law counts once. -/
mutual
def uptoBulk {H : Type} : DataW H → Nat
  | .lit (.string bytes) => bytes.length + 1
  | .lit _ => 1
  | .nil => 1
  | .ptr d => uptoBulk d + 1
  | .slice elems spare => uptoBulkAll elems + uptoBulkAll spare + 1
  | .agg parts => uptoBulkAll parts + 1
  | .iface _ d => uptoBulk d + 1
  | .map entries => uptoBulkEntries entries + 1
  | .held _ => 1
def uptoBulkAll {H : Type} : List (DataW H) → Nat
  | [] => 0
  | d :: r => uptoBulk d + uptoBulkAll r
def uptoBulkEntries {H : Type} : List (Lit × DataW H) → Nat
  | [] => 0
  | x :: r => uptoBulkEntry x + uptoBulkEntries r
def uptoBulkEntry {H : Type} : Lit × DataW H → Nat
  | (.string bytes, d) => bytes.length + uptoBulk d + 1
  | (_, d) => uptoBulk d + 1
 end
def uptoSmall : (H : Type) → List (DataW H) → Bool := fun _ ds => decide (uptoBulkAll ds ≤ 1048576)
def OpenSpec.upto (s : _root_.Go.ChangeSpec) : _root_.Go.OpenSpec := { _root_.Go.OpenSpec.ofChange s with cond := some uptoSmall }

/-- 'laws.FnExactIsSplit', WHERE WHAT IT READS IS OF BULK AT MOST 1048576: true; the input reads as it did. -/
def fnExactIsSplitUptoRow : OpenClaim := { program := "ythpdhoplddlieaa", sum := "7a2ccfbb7a9eed609dbc567b10fc879253528c63fc9cb23aaf2abd99d4cf2598", func := "loop.example/g01209/laws.FnExactIsSplit", spec := "fnExactIsSplit", unfollowed := true, recurses := true, apart := false, narrowed := true }
def FnExactIsSplitUptoSaid : Prop := fnExactIsSplitUptoRow.holds Try.pinned (OpenSpec.upto fnExactIsSplitSpec)

/-- 'laws.FnExactPlacesWon', WHERE WHAT IT READS IS OF BULK AT MOST 1048576: true; the input reads as it did. -/
def fnExactPlacesWonUptoRow : OpenClaim := { program := "ythpdhoplddlieaa", sum := "7a2ccfbb7a9eed609dbc567b10fc879253528c63fc9cb23aaf2abd99d4cf2598", func := "loop.example/g01209/laws.FnExactPlacesWon", spec := "fnExactPlacesWon", recurses := true, apart := false, narrowed := true }
def FnExactPlacesWonUptoSaid : Prop := fnExactPlacesWonUptoRow.holds Try.pinned (OpenSpec.upto fnExactPlacesWonSpec)

/-- 'laws.FnExactGoodPlaces', WHERE WHAT IT READS IS OF BULK AT MOST 1048576: true; the input reads as it did. -/
def fnExactGoodPlacesUptoRow : OpenClaim := { program := "ythpdhoplddlieaa", sum := "7a2ccfbb7a9eed609dbc567b10fc879253528c63fc9cb23aaf2abd99d4cf2598", func := "loop.example/g01209/laws.FnExactGoodPlaces", spec := "fnExactGoodPlaces", recurses := true, apart := false, narrowed := true }
def FnExactGoodPlacesUptoSaid : Prop := fnExactGoodPlacesUptoRow.holds Try.pinned (OpenSpec.upto fnExactGoodPlacesSpec)

/-- 'laws.FnExactBrickLadder', WHERE WHAT IT READS IS OF BULK AT MOST 1048576: true; the input reads as it did. -/
def fnExactBrickLadderUptoRow : OpenClaim := { program := "ythpdhoplddlieaa", sum := "7a2ccfbb7a9eed609dbc567b10fc879253528c63fc9cb23aaf2abd99d4cf2598", func := "loop.example/g01209/laws.FnExactBrickLadder", spec := "fnExactBrickLadder", unfollowed := true, recurses := true, apart := false, narrowed := true }
def FnExactBrickLadderUptoSaid : Prop := fnExactBrickLadderUptoRow.holds Try.pinned (OpenSpec.upto fnExactBrickLadderSpec)

/-- 'laws.FnExactDoubleLadder', WHERE WHAT IT READS IS OF BULK AT MOST 1048576: true; the input reads as it did. -/
def fnExactDoubleLadderUptoRow : OpenClaim := { program := "ythpdhoplddlieaa", sum := "7a2ccfbb7a9eed609dbc567b10fc879253528c63fc9cb23aaf2abd99d4cf2598", func := "loop.example/g01209/laws.FnExactDoubleLadder", spec := "fnExactDoubleLadder", unfollowed := true, recurses := true, apart := false, narrowed := true }
def FnExactDoubleLadderUptoSaid : Prop := fnExactDoubleLadderUptoRow.holds Try.pinned (OpenSpec.upto fnExactDoubleLadderSpec)

/-- 'laws.FnExactPatternOf', WHERE WHAT IT READS IS OF BULK AT MOST 1048576: true; the input reads as it did. -/
def fnExactPatternOfUptoRow : OpenClaim := { program := "ythpdhoplddlieaa", sum := "7a2ccfbb7a9eed609dbc567b10fc879253528c63fc9cb23aaf2abd99d4cf2598", func := "loop.example/g01209/laws.FnExactPatternOf", spec := "fnExactPatternOf", apart := false, narrowed := true }
def FnExactPatternOfUptoSaid : Prop := fnExactPatternOfUptoRow.holds Try.pinned (OpenSpec.upto fnExactPatternOfSpec)

/-- 'laws.FnExactBesideLadders', WHERE WHAT IT READS IS OF BULK AT MOST 1048576: true; the input reads as it did. -/
def fnExactBesideLaddersUptoRow : OpenClaim := { program := "ythpdhoplddlieaa", sum := "7a2ccfbb7a9eed609dbc567b10fc879253528c63fc9cb23aaf2abd99d4cf2598", func := "loop.example/g01209/laws.FnExactBesideLadders", spec := "fnExactBesideLadders", unfollowed := true, recurses := true, apart := false, narrowed := true }
def FnExactBesideLaddersUptoSaid : Prop := fnExactBesideLaddersUptoRow.holds Try.pinned (OpenSpec.upto fnExactBesideLaddersSpec)

/-- 'laws.FnExactPutWire', WHERE WHAT IT READS IS OF BULK AT MOST 1048576: true; the input reads as it did. -/
def fnExactPutWireUptoRow : OpenClaim := { program := "ythpdhoplddlieaa", sum := "7a2ccfbb7a9eed609dbc567b10fc879253528c63fc9cb23aaf2abd99d4cf2598", func := "loop.example/g01209/laws.FnExactPutWire", spec := "fnExactPutWire", unfollowed := true, recurses := true, apart := false, narrowed := true }
def FnExactPutWireUptoSaid : Prop := fnExactPutWireUptoRow.holds Try.pinned (OpenSpec.upto fnExactPutWireSpec)

/-- 'laws.FnExactCountPattern', WHERE WHAT IT READS IS OF BULK AT MOST 1048576: true; the input reads as it did. -/
def fnExactCountPatternUptoRow : OpenClaim := { program := "ythpdhoplddlieaa", sum := "7a2ccfbb7a9eed609dbc567b10fc879253528c63fc9cb23aaf2abd99d4cf2598", func := "loop.example/g01209/laws.FnExactCountPattern", spec := "fnExactCountPattern", unfollowed := true, recurses := true, apart := false, narrowed := true }
def FnExactCountPatternUptoSaid : Prop := fnExactCountPatternUptoRow.holds Try.pinned (OpenSpec.upto fnExactCountPatternSpec)

/-- 'laws.FnExactIsTaking', WHERE WHAT IT READS IS OF BULK AT MOST 1048576: true; the input reads as it did. -/
def fnExactIsTakingUptoRow : OpenClaim := { program := "ythpdhoplddlieaa", sum := "7a2ccfbb7a9eed609dbc567b10fc879253528c63fc9cb23aaf2abd99d4cf2598", func := "loop.example/g01209/laws.FnExactIsTaking", spec := "fnExactIsTaking", unfollowed := true, recurses := true, apart := false, narrowed := true }
def FnExactIsTakingUptoSaid : Prop := fnExactIsTakingUptoRow.holds Try.pinned (OpenSpec.upto fnExactIsTakingSpec)

/-- 'laws.FnExactBrickDepth', WHERE WHAT IT READS IS OF BULK AT MOST 1048576: true; the input reads as it did. -/
def fnExactBrickDepthUptoRow : OpenClaim := { program := "ythpdhoplddlieaa", sum := "7a2ccfbb7a9eed609dbc567b10fc879253528c63fc9cb23aaf2abd99d4cf2598", func := "loop.example/g01209/laws.FnExactBrickDepth", spec := "fnExactBrickDepth", apart := false, narrowed := true }
def FnExactBrickDepthUptoSaid : Prop := fnExactBrickDepthUptoRow.holds Try.pinned (OpenSpec.upto fnExactBrickDepthSpec)

/-- 'laws.FnExactTakeStart', WHERE WHAT IT READS IS OF BULK AT MOST 1048576: true; the input reads as it did. -/
def fnExactTakeStartUptoRow : OpenClaim := { program := "ythpdhoplddlieaa", sum := "7a2ccfbb7a9eed609dbc567b10fc879253528c63fc9cb23aaf2abd99d4cf2598", func := "loop.example/g01209/laws.FnExactTakeStart", spec := "fnExactTakeStart", unfollowed := true, recurses := true, apart := false, narrowed := true }
def FnExactTakeStartUptoSaid : Prop := fnExactTakeStartUptoRow.holds Try.pinned (OpenSpec.upto fnExactTakeStartSpec)

end Rows
end Go.Proofs.Ythpdhoplddlieaa
