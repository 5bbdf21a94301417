/-
  No cell of these rows narrows 'for every input' (looked for: loops, veiled, ifaces, maps, wideKeys, modest, calm, conditions, laid).
  DERIVED. THE GIVEN ROWS OF THIS SEAT. 6 by the template 'for every input the law returns true; each argument reads behind the call as it read before'; 0 by the template 'total and deterministic' (their statements: YtgbpkajbddokoaaTotals.lean).
  GIVEN WITH THE SEED: the statements are not yours to turn. If you find one false, say at which input.
  Laid BY PROGRAM, IN A SANDBOX (cutbox-rows.mjs): the forced cells as the released guide's own fill.sh prints them over the translation b07f8021ca3d3c16… (all of the seat's roots in one cut). By AI agents, Wed Nov 11 2026. No macro, syntax, notation, axiom, sorry.
-/
import Derived.Test.YtgbpkajbddokoaaChecked
import GoSem.Claim
import GoSem.ClaimJoined
import GoSem.ClaimMapViews
import Derived.JoinedTies
import Derived.KernelRfl
namespace Go.Proofs.Ytgbpkajbddokoaa
/- THE CELL 'sum', in the pinned program and in every row, IS THE sha256 OF THE DUMP (.gsa) THAT YtgbpkajbddokoaaProg.lean LOADS. Nothing in Lean hashes anything: it is a label: what it is worth is what the hold of that sum in a sandbox is worth. -/
noncomputable def Try.pinned : Pinned := { name := "ytgbpkajbddokoaa", sum := "b07f8021ca3d3c160e1863a147594fce2dd2dd58157d113a36dcb334fd199d15", checked := Try.checked }
namespace Rows
def none {H : Type} : Left H := { results := [], args := [] }

/-- 'laws.FnExactCountLevels': WHATEVER THE INPUT: true; the input reads as it did. -/
def fnExactCountLevelsSpec : ChangeSpec := { name := "fnExactCountLevels", fn := fun _ => fun
  | [d] => { results := [.lit (.bool true)], args := [d] }
  | _ => none }
def fnExactCountLevelsRow : OpenClaim := { program := "ytgbpkajbddokoaa", sum := "b07f8021ca3d3c160e1863a147594fce2dd2dd58157d113a36dcb334fd199d15", func := "loop.example/g01209/laws.FnExactCountLevels", spec := "fnExactCountLevels", recurses := true, apart := false }
def FnExactCountLevelsSaid : Prop := fnExactCountLevelsRow.holds Try.pinned (OpenSpec.ofChange fnExactCountLevelsSpec)

/-- ITS FALSE NEIGHBOUR: 'it returns false'. Refute it at one input. -/
def fnExactCountLevelsWrong : ChangeSpec := { name := "fnExactCountLevels", fn := fun _ => fun
  | [d] => { results := [.lit (.bool false)], args := [d] }
  | _ => none }
def FnExactCountLevelsWrongFalsely : Prop := fnExactCountLevelsRow.holds Try.pinned (OpenSpec.ofChange fnExactCountLevelsWrong)

/-- 'laws.FnExactIsLevel': WHATEVER THE INPUT: true; the input reads as it did. -/
def fnExactIsLevelSpec : ChangeSpec := { name := "fnExactIsLevel", fn := fun _ => fun
  | [d1, d2] => { results := [.lit (.bool true)], args := [d1, d2] }
  | _ => none }
def fnExactIsLevelRow : OpenClaim := { program := "ytgbpkajbddokoaa", sum := "b07f8021ca3d3c160e1863a147594fce2dd2dd58157d113a36dcb334fd199d15", func := "loop.example/g01209/laws.FnExactIsLevel", spec := "fnExactIsLevel", apart := false }
def FnExactIsLevelSaid : Prop := fnExactIsLevelRow.holds Try.pinned (OpenSpec.ofChange fnExactIsLevelSpec)

/-- ITS FALSE NEIGHBOUR: 'it returns false'. Refute it at one input. -/
def fnExactIsLevelWrong : ChangeSpec := { name := "fnExactIsLevel", fn := fun _ => fun
  | [d1, d2] => { results := [.lit (.bool false)], args := [d1, d2] }
  | _ => none }
def FnExactIsLevelWrongFalsely : Prop := fnExactIsLevelRow.holds Try.pinned (OpenSpec.ofChange fnExactIsLevelWrong)

/-- 'laws.FnExactFirstDesk': WHATEVER THE INPUT: true; the input reads as it did. -/
def fnExactFirstDeskSpec : ChangeSpec := { name := "fnExactFirstDesk", fn := fun _ => fun
  | [] => { results := [.lit (.bool true)], args := [] }
  | _ => none }
def fnExactFirstDeskRow : OpenClaim := { program := "ytgbpkajbddokoaa", sum := "b07f8021ca3d3c160e1863a147594fce2dd2dd58157d113a36dcb334fd199d15", func := "loop.example/g01209/laws.FnExactFirstDesk", spec := "fnExactFirstDesk", apart := false }
def FnExactFirstDeskSaid : Prop := fnExactFirstDeskRow.holds Try.pinned (OpenSpec.ofChange fnExactFirstDeskSpec)

/-- ITS FALSE NEIGHBOUR: 'it returns false'. Refute it at one input. -/
def fnExactFirstDeskWrong : ChangeSpec := { name := "fnExactFirstDesk", fn := fun _ => fun
  | [] => { results := [.lit (.bool false)], args := [] }
  | _ => none }
def FnExactFirstDeskWrongFalsely : Prop := fnExactFirstDeskRow.holds Try.pinned (OpenSpec.ofChange fnExactFirstDeskWrong)

/-- 'laws.FnExactPlaceWinner': WHATEVER THE INPUT: true; the input reads as it did. -/
def fnExactPlaceWinnerSpec : ChangeSpec := { name := "fnExactPlaceWinner", fn := fun _ => fun
  | [d1, d2, d3, d4] => { results := [.lit (.bool true)], args := [d1, d2, d3, d4] }
  | _ => none }
def fnExactPlaceWinnerRow : OpenClaim := { program := "ytgbpkajbddokoaa", sum := "b07f8021ca3d3c160e1863a147594fce2dd2dd58157d113a36dcb334fd199d15", func := "loop.example/g01209/laws.FnExactPlaceWinner", spec := "fnExactPlaceWinner", recurses := true, apart := false }
def FnExactPlaceWinnerSaid : Prop := fnExactPlaceWinnerRow.holds Try.pinned (OpenSpec.ofChange fnExactPlaceWinnerSpec)

/-- ITS FALSE NEIGHBOUR: 'it returns false'. Refute it at one input. -/
def fnExactPlaceWinnerWrong : ChangeSpec := { name := "fnExactPlaceWinner", fn := fun _ => fun
  | [d1, d2, d3, d4] => { results := [.lit (.bool false)], args := [d1, d2, d3, d4] }
  | _ => none }
def FnExactPlaceWinnerWrongFalsely : Prop := fnExactPlaceWinnerRow.holds Try.pinned (OpenSpec.ofChange fnExactPlaceWinnerWrong)

/-- 'laws.FnExactAllLevels': WHATEVER THE INPUT: true; the input reads as it did. -/
def fnExactAllLevelsSpec : ChangeSpec := { name := "fnExactAllLevels", fn := fun _ => fun
  | [d] => { results := [.lit (.bool true)], args := [d] }
  | _ => none }
def fnExactAllLevelsRow : OpenClaim := { program := "ytgbpkajbddokoaa", sum := "b07f8021ca3d3c160e1863a147594fce2dd2dd58157d113a36dcb334fd199d15", func := "loop.example/g01209/laws.FnExactAllLevels", spec := "fnExactAllLevels", recurses := true, apart := false }
def FnExactAllLevelsSaid : Prop := fnExactAllLevelsRow.holds Try.pinned (OpenSpec.ofChange fnExactAllLevelsSpec)

/-- ITS FALSE NEIGHBOUR: 'it returns false'. Refute it at one input. -/
def fnExactAllLevelsWrong : ChangeSpec := { name := "fnExactAllLevels", fn := fun _ => fun
  | [d] => { results := [.lit (.bool false)], args := [d] }
  | _ => none }
def FnExactAllLevelsWrongFalsely : Prop := fnExactAllLevelsRow.holds Try.pinned (OpenSpec.ofChange fnExactAllLevelsWrong)

/-- 'laws.FnExactIsDesk': WHATEVER THE INPUT: true; the input reads as it did. -/
def fnExactIsDeskSpec : ChangeSpec := { name := "fnExactIsDesk", fn := fun _ => fun
  | [d] => { results := [.lit (.bool true)], args := [d] }
  | _ => none }
def fnExactIsDeskRow : OpenClaim := { program := "ytgbpkajbddokoaa", sum := "b07f8021ca3d3c160e1863a147594fce2dd2dd58157d113a36dcb334fd199d15", func := "loop.example/g01209/laws.FnExactIsDesk", spec := "fnExactIsDesk", unfollowed := true, recurses := true, apart := false }
def FnExactIsDeskSaid : Prop := fnExactIsDeskRow.holds Try.pinned (OpenSpec.ofChange fnExactIsDeskSpec)

/-- ITS FALSE NEIGHBOUR: 'it returns false'. Refute it at one input. -/
def fnExactIsDeskWrong : ChangeSpec := { name := "fnExactIsDesk", fn := fun _ => fun
  | [d] => { results := [.lit (.bool false)], args := [d] }
  | _ => none }
def FnExactIsDeskWrongFalsely : Prop := fnExactIsDeskRow.holds Try.pinned (OpenSpec.ofChange fnExactIsDeskWrong)

/- THE SECOND FORM. 'bulk': how many values and letters a reading holds, each counted each time it is reached (what is shared counts as often as it is met; a slice's spare places count too). A statement '..UptoSaid' is the law's where the arguments, and the package variables that the reading takes, are together of bulk at most 1048576: NARROWER than '..Said'. Prove '..Said' where nothing that the law and all that it calls make is longer than what came in: it says more and counts as full. Else prove '..UptoSaid'. A law counts once. -/
mutual
def uptoBulk {H : Type} : DataW H → Nat
  | .lit (.string bytes) => bytes.length + 1
  | .lit _ => 1
  | .nil => 1
  | .ptr d => uptoBulk d + 1
  | .slice elems spare => uptoBulkAll elems + uptoBulkAll spare + 1
  | .agg parts => uptoBulkAll parts + 1
  | .iface _ d => uptoBulk d + 1
  | .map entries => uptoBulkEntries entries + 1
  | .held _ => 1
def uptoBulkAll {H : Type} : List (DataW H) → Nat
  | [] => 0
  | d :: r => uptoBulk d + uptoBulkAll r
def uptoBulkEntries {H : Type} : List (Lit × DataW H) → Nat
  | [] => 0
  | x :: r => uptoBulkEntry x + uptoBulkEntries r
def uptoBulkEntry {H : Type} : Lit × DataW H → Nat
  | (.string bytes, d) => bytes.length + uptoBulk d + 1
  | (_, d) => uptoBulk d + 1
 end
def uptoSmall : (H : Type) → List (DataW H) → Bool := fun _ ds => decide (uptoBulkAll ds ≤ 1048576)
def OpenSpec.upto (s : _root_.Go.ChangeSpec) : _root_.Go.OpenSpec := { _root_.Go.OpenSpec.ofChange s with cond := some uptoSmall }

/-- 'laws.FnExactCountLevels', WHERE WHAT IT READS IS OF BULK AT MOST 1048576: true; the input reads as it did. -/
def fnExactCountLevelsUptoRow : OpenClaim := { program := "ytgbpkajbddokoaa", sum := "b07f8021ca3d3c160e1863a147594fce2dd2dd58157d113a36dcb334fd199d15", func := "loop.example/g01209/laws.FnExactCountLevels", spec := "fnExactCountLevels", recurses := true, apart := false, narrowed := true }
def FnExactCountLevelsUptoSaid : Prop := fnExactCountLevelsUptoRow.holds Try.pinned (OpenSpec.upto fnExactCountLevelsSpec)

/-- 'laws.FnExactIsLevel', WHERE WHAT IT READS IS OF BULK AT MOST 1048576: true; the input reads as it did. -/
def fnExactIsLevelUptoRow : OpenClaim := { program := "ytgbpkajbddokoaa", sum := "b07f8021ca3d3c160e1863a147594fce2dd2dd58157d113a36dcb334fd199d15", func := "loop.example/g01209/laws.FnExactIsLevel", spec := "fnExactIsLevel", apart := false, narrowed := true }
def FnExactIsLevelUptoSaid : Prop := fnExactIsLevelUptoRow.holds Try.pinned (OpenSpec.upto fnExactIsLevelSpec)

/-- 'laws.FnExactFirstDesk', WHERE WHAT IT READS IS OF BULK AT MOST 1048576: true; the input reads as it did. -/
def fnExactFirstDeskUptoRow : OpenClaim := { program := "ytgbpkajbddokoaa", sum := "b07f8021ca3d3c160e1863a147594fce2dd2dd58157d113a36dcb334fd199d15", func := "loop.example/g01209/laws.FnExactFirstDesk", spec := "fnExactFirstDesk", apart := false, narrowed := true }
def FnExactFirstDeskUptoSaid : Prop := fnExactFirstDeskUptoRow.holds Try.pinned (OpenSpec.upto fnExactFirstDeskSpec)

/-- 'laws.FnExactPlaceWinner', WHERE WHAT IT READS IS OF BULK AT MOST 1048576: true; the input reads as it did. -/
def fnExactPlaceWinnerUptoRow : OpenClaim := { program := "ytgbpkajbddokoaa", sum := "b07f8021ca3d3c160e1863a147594fce2dd2dd58157d113a36dcb334fd199d15", func := "loop.example/g01209/laws.FnExactPlaceWinner", spec := "fnExactPlaceWinner", recurses := true, apart := false, narrowed := true }
def FnExactPlaceWinnerUptoSaid : Prop := fnExactPlaceWinnerUptoRow.holds Try.pinned (OpenSpec.upto fnExactPlaceWinnerSpec)

/-- 'laws.FnExactAllLevels', WHERE WHAT IT READS IS OF BULK AT MOST 1048576: true; the input reads as it did. -/
def fnExactAllLevelsUptoRow : OpenClaim := { program := "ytgbpkajbddokoaa", sum := "b07f8021ca3d3c160e1863a147594fce2dd2dd58157d113a36dcb334fd199d15", func := "loop.example/g01209/laws.FnExactAllLevels", spec := "fnExactAllLevels", recurses := true, apart := false, narrowed := true }
def FnExactAllLevelsUptoSaid : Prop := fnExactAllLevelsUptoRow.holds Try.pinned (OpenSpec.upto fnExactAllLevelsSpec)

/-- 'laws.FnExactIsDesk', WHERE WHAT IT READS IS OF BULK AT MOST 1048576: true; the input reads as it did. -/
def fnExactIsDeskUptoRow : OpenClaim := { program := "ytgbpkajbddokoaa", sum := "b07f8021ca3d3c160e1863a147594fce2dd2dd58157d113a36dcb334fd199d15", func := "loop.example/g01209/laws.FnExactIsDesk", spec := "fnExactIsDesk", unfollowed := true, recurses := true, apart := false, narrowed := true }
def FnExactIsDeskUptoSaid : Prop := fnExactIsDeskUptoRow.holds Try.pinned (OpenSpec.upto fnExactIsDeskSpec)

end Rows
end Go.Proofs.Ytgbpkajbddokoaa
