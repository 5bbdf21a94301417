/-
  No cell of these rows narrows 'for every input' (looked for: loops, veiled, ifaces, maps, wideKeys, modest, calm, conditions, laid).
  DERIVED. THE GIVEN ROWS OF THIS SEAT. 3 by the template 'for every input the law returns true; each argument reads behind the call as it read before'; 0 by the template 'total and deterministic' (their statements: YtojbmihkdlkkcaaTotals.lean).
  GIVEN WITH THE SEED: the statements are not yours to turn. If you find one false, say at which input.
  Laid BY PROGRAM, IN A SANDBOX (cutbox-rows.mjs): the forced cells as the released guide's own fill.sh prints them over the translation 0018437388127bb3… (all of the seat's roots in one cut). By AI agents, Wed Nov 11 2026. No macro, syntax, notation, axiom, sorry.
-/
import Derived.Test.YtojbmihkdlkkcaaChecked
import GoSem.Claim
import GoSem.ClaimJoined
import GoSem.ClaimMapViews
import Derived.JoinedTies
import Derived.KernelRfl
namespace Go.Proofs.Ytojbmihkdlkkcaa
/- THE CELL 'sum', in the pinned program and in every row, IS THE sha256 OF THE DUMP (.gsa) THAT YtojbmihkdlkkcaaProg.lean LOADS. Nothing in Lean hashes anything: it is a label: what it is worth is what the hold of that sum in a sandbox is worth. -/
noncomputable def Try.pinned : Pinned := { name := "ytojbmihkdlkkcaa", sum := "0018437388127bb301f6dc38ecff20b4f3ea448625ced8b33b5dfcb9ca78aa9a", checked := Try.checked }
namespace Rows
def none {H : Type} : Left H := { results := [], args := [] }

/-- 'laws.FnExactCountDepths': WHATEVER THE INPUT: true; the input reads as it did. -/
def fnExactCountDepthsSpec : ChangeSpec := { name := "fnExactCountDepths", fn := fun _ => fun
  | [d] => { results := [.lit (.bool true)], args := [d] }
  | _ => none }
def fnExactCountDepthsRow : OpenClaim := { program := "ytojbmihkdlkkcaa", sum := "0018437388127bb301f6dc38ecff20b4f3ea448625ced8b33b5dfcb9ca78aa9a", func := "loop.example/g01209/laws.FnExactCountDepths", spec := "fnExactCountDepths", recurses := true, apart := false }
def FnExactCountDepthsSaid : Prop := fnExactCountDepthsRow.holds Try.pinned (OpenSpec.ofChange fnExactCountDepthsSpec)

/-- ITS FALSE NEIGHBOUR: 'it returns false'. Refute it at one input. -/
def fnExactCountDepthsWrong : ChangeSpec := { name := "fnExactCountDepths", fn := fun _ => fun
  | [d] => { results := [.lit (.bool false)], args := [d] }
  | _ => none }
def FnExactCountDepthsWrongFalsely : Prop := fnExactCountDepthsRow.holds Try.pinned (OpenSpec.ofChange fnExactCountDepthsWrong)

/-- 'laws.FnExactLeastDepth': WHATEVER THE INPUT: true; the input reads as it did. -/
def fnExactLeastDepthSpec : ChangeSpec := { name := "fnExactLeastDepth", fn := fun _ => fun
  | [d] => { results := [.lit (.bool true)], args := [d] }
  | _ => none }
def fnExactLeastDepthRow : OpenClaim := { program := "ytojbmihkdlkkcaa", sum := "0018437388127bb301f6dc38ecff20b4f3ea448625ced8b33b5dfcb9ca78aa9a", func := "loop.example/g01209/laws.FnExactLeastDepth", spec := "fnExactLeastDepth", recurses := true, apart := false }
def FnExactLeastDepthSaid : Prop := fnExactLeastDepthRow.holds Try.pinned (OpenSpec.ofChange fnExactLeastDepthSpec)

/-- ITS FALSE NEIGHBOUR: 'it returns false'. Refute it at one input. -/
def fnExactLeastDepthWrong : ChangeSpec := { name := "fnExactLeastDepth", fn := fun _ => fun
  | [d] => { results := [.lit (.bool false)], args := [d] }
  | _ => none }
def FnExactLeastDepthWrongFalsely : Prop := fnExactLeastDepthRow.holds Try.pinned (OpenSpec.ofChange fnExactLeastDepthWrong)

/-- 'laws.FnExactLeastLevels': WHATEVER THE INPUT: true; the input reads as it did. -/
def fnExactLeastLevelsSpec : ChangeSpec := { name := "fnExactLeastLevels", fn := fun _ => fun
  | [d] => { results := [.lit (.bool true)], args := [d] }
  | _ => none }
def fnExactLeastLevelsRow : OpenClaim := { program := "ytojbmihkdlkkcaa", sum := "0018437388127bb301f6dc38ecff20b4f3ea448625ced8b33b5dfcb9ca78aa9a", func := "loop.example/g01209/laws.FnExactLeastLevels", spec := "fnExactLeastLevels", recurses := true, apart := false }
def FnExactLeastLevelsSaid : Prop := fnExactLeastLevelsRow.holds Try.pinned (OpenSpec.ofChange fnExactLeastLevelsSpec)

/-- ITS FALSE NEIGHBOUR: 'it returns false'. Refute it at one input. -/
def fnExactLeastLevelsWrong : ChangeSpec := { name := "fnExactLeastLevels", fn := fun _ => fun
  | [d] => { results := [.lit (.bool false)], args := [d] }
  | _ => none }
def FnExactLeastLevelsWrongFalsely : Prop := fnExactLeastLevelsRow.holds Try.pinned (OpenSpec.ofChange fnExactLeastLevelsWrong)

/- THE SECOND FORM. 'bulk': how many values and letters a reading holds, each counted each time it is reached (what is shared counts as often as it is met; a slice's spare places count too). A statement '..UptoSaid' is the law's where the arguments, and the package variables that the reading takes, are together of bulk at most 1048576: NARROWER than '..Said'. Prove '..Said' where nothing that the law and all that it calls make is longer than what came in: it says more and counts as full. Else prove '..UptoSaid'. A law counts once. -/
mutual
def uptoBulk {H : Type} : DataW H → Nat
  | .lit (.string bytes) => bytes.length + 1
  | .lit _ => 1
  | .nil => 1
  | .ptr d => uptoBulk d + 1
  | .slice elems spare => uptoBulkAll elems + uptoBulkAll spare + 1
  | .agg parts => uptoBulkAll parts + 1
  | .iface _ d => uptoBulk d + 1
  | .map entries => uptoBulkEntries entries + 1
  | .held _ => 1
def uptoBulkAll {H : Type} : List (DataW H) → Nat
  | [] => 0
  | d :: r => uptoBulk d + uptoBulkAll r
def uptoBulkEntries {H : Type} : List (Lit × DataW H) → Nat
  | [] => 0
  | x :: r => uptoBulkEntry x + uptoBulkEntries r
def uptoBulkEntry {H : Type} : Lit × DataW H → Nat
  | (.string bytes, d) => bytes.length + uptoBulk d + 1
  | (_, d) => uptoBulk d + 1
 end
def uptoSmall : (H : Type) → List (DataW H) → Bool := fun _ ds => decide (uptoBulkAll ds ≤ 1048576)
def OpenSpec.upto (s : _root_.Go.ChangeSpec) : _root_.Go.OpenSpec := { _root_.Go.OpenSpec.ofChange s with cond := some uptoSmall }

/-- 'laws.FnExactCountDepths', WHERE WHAT IT READS IS OF BULK AT MOST 1048576: true; the input reads as it did. -/
def fnExactCountDepthsUptoRow : OpenClaim := { program := "ytojbmihkdlkkcaa", sum := "0018437388127bb301f6dc38ecff20b4f3ea448625ced8b33b5dfcb9ca78aa9a", func := "loop.example/g01209/laws.FnExactCountDepths", spec := "fnExactCountDepths", recurses := true, apart := false, narrowed := true }
def FnExactCountDepthsUptoSaid : Prop := fnExactCountDepthsUptoRow.holds Try.pinned (OpenSpec.upto fnExactCountDepthsSpec)

/-- 'laws.FnExactLeastDepth', WHERE WHAT IT READS IS OF BULK AT MOST 1048576: true; the input reads as it did. -/
def fnExactLeastDepthUptoRow : OpenClaim := { program := "ytojbmihkdlkkcaa", sum := "0018437388127bb301f6dc38ecff20b4f3ea448625ced8b33b5dfcb9ca78aa9a", func := "loop.example/g01209/laws.FnExactLeastDepth", spec := "fnExactLeastDepth", recurses := true, apart := false, narrowed := true }
def FnExactLeastDepthUptoSaid : Prop := fnExactLeastDepthUptoRow.holds Try.pinned (OpenSpec.upto fnExactLeastDepthSpec)

/-- 'laws.FnExactLeastLevels', WHERE WHAT IT READS IS OF BULK AT MOST 1048576: true; the input reads as it did. -/
def fnExactLeastLevelsUptoRow : OpenClaim := { program := "ytojbmihkdlkkcaa", sum := "0018437388127bb301f6dc38ecff20b4f3ea448625ced8b33b5dfcb9ca78aa9a", func := "loop.example/g01209/laws.FnExactLeastLevels", spec := "fnExactLeastLevels", recurses := true, apart := false, narrowed := true }
def FnExactLeastLevelsUptoSaid : Prop := fnExactLeastLevelsUptoRow.holds Try.pinned (OpenSpec.upto fnExactLeastLevelsSpec)

end Rows
end Go.Proofs.Ytojbmihkdlkkcaa
