/-
  No cell of these rows narrows 'for every input' (looked for: loops, veiled, ifaces, maps, wideKeys, modest, calm, conditions, laid).
  DERIVED. THE GIVEN ROWS OF THIS SEAT. 7 by the template 'for every input the law returns true; each argument reads behind the call as it read before'; 0 by the template 'total and deterministic' (their statements: YtnmhokkkjpjmeaaTotals.lean).
  GIVEN WITH THE SEED: the statements are not yours to turn. If you find one false, say at which input.
  Laid BY PROGRAM, IN A SANDBOX (cutbox-rows.mjs): the forced cells as the released guide's own fill.sh prints them over the translation a8470b8bb4d56584… (all of the seat's roots in one cut). By AI agents, Wed Nov 11 2026. No macro, syntax, notation, axiom, sorry.
-/
import Derived.Test.YtnmhokkkjpjmeaaChecked
import GoSem.Claim
import GoSem.ClaimJoined
import GoSem.ClaimMapViews
import Derived.JoinedTies
import Derived.KernelRfl
namespace Go.Proofs.Ytnmhokkkjpjmeaa
/- THE CELL 'sum', in the pinned program and in every row, IS THE sha256 OF THE DUMP (.gsa) THAT YtnmhokkkjpjmeaaProg.lean LOADS. Nothing in Lean hashes anything: it is a label: what it is worth is what the hold of that sum in a sandbox is worth. -/
noncomputable def Try.pinned : Pinned := { name := "ytnmhokkkjpjmeaa", sum := "a8470b8bb4d565845ed8c1d0779081f6ac931d6ec6cc21a6043d0c517c43ea8b", checked := Try.checked }
namespace Rows
def none {H : Type} : Left H := { results := [], args := [] }

/-- 'laws.FnExactCountHomeSets': WHATEVER THE INPUT: true; the input reads as it did. -/
def fnExactCountHomeSetsSpec : ChangeSpec := { name := "fnExactCountHomeSets", fn := fun _ => fun
  | [d] => { results := [.lit (.bool true)], args := [d] }
  | _ => none }
def fnExactCountHomeSetsRow : OpenClaim := { program := "ytnmhokkkjpjmeaa", sum := "a8470b8bb4d565845ed8c1d0779081f6ac931d6ec6cc21a6043d0c517c43ea8b", func := "loop.example/g01209/laws.FnExactCountHomeSets", spec := "fnExactCountHomeSets", unfollowed := true, recurses := true, apart := false }
def FnExactCountHomeSetsSaid : Prop := fnExactCountHomeSetsRow.holds Try.pinned (OpenSpec.ofChange fnExactCountHomeSetsSpec)

/-- ITS FALSE NEIGHBOUR: 'it returns false'. Refute it at one input. -/
def fnExactCountHomeSetsWrong : ChangeSpec := { name := "fnExactCountHomeSets", fn := fun _ => fun
  | [d] => { results := [.lit (.bool false)], args := [d] }
  | _ => none }
def FnExactCountHomeSetsWrongFalsely : Prop := fnExactCountHomeSetsRow.holds Try.pinned (OpenSpec.ofChange fnExactCountHomeSetsWrong)

/-- 'laws.FnExactPlayTakes': WHATEVER THE INPUT: true; the input reads as it did. -/
def fnExactPlayTakesSpec : ChangeSpec := { name := "fnExactPlayTakes", fn := fun _ => fun
  | [d1, d2] => { results := [.lit (.bool true)], args := [d1, d2] }
  | _ => none }
def fnExactPlayTakesRow : OpenClaim := { program := "ytnmhokkkjpjmeaa", sum := "a8470b8bb4d565845ed8c1d0779081f6ac931d6ec6cc21a6043d0c517c43ea8b", func := "loop.example/g01209/laws.FnExactPlayTakes", spec := "fnExactPlayTakes", unfollowed := true, recurses := true, apart := false }
def FnExactPlayTakesSaid : Prop := fnExactPlayTakesRow.holds Try.pinned (OpenSpec.ofChange fnExactPlayTakesSpec)

/-- ITS FALSE NEIGHBOUR: 'it returns false'. Refute it at one input. -/
def fnExactPlayTakesWrong : ChangeSpec := { name := "fnExactPlayTakes", fn := fun _ => fun
  | [d1, d2] => { results := [.lit (.bool false)], args := [d1, d2] }
  | _ => none }
def FnExactPlayTakesWrongFalsely : Prop := fnExactPlayTakesRow.holds Try.pinned (OpenSpec.ofChange fnExactPlayTakesWrong)

/-- 'laws.FnExactTakeWinner': WHATEVER THE INPUT: true; the input reads as it did. -/
def fnExactTakeWinnerSpec : ChangeSpec := { name := "fnExactTakeWinner", fn := fun _ => fun
  | [d] => { results := [.lit (.bool true)], args := [d] }
  | _ => none }
def fnExactTakeWinnerRow : OpenClaim := { program := "ytnmhokkkjpjmeaa", sum := "a8470b8bb4d565845ed8c1d0779081f6ac931d6ec6cc21a6043d0c517c43ea8b", func := "loop.example/g01209/laws.FnExactTakeWinner", spec := "fnExactTakeWinner", unfollowed := true, recurses := true, apart := false }
def FnExactTakeWinnerSaid : Prop := fnExactTakeWinnerRow.holds Try.pinned (OpenSpec.ofChange fnExactTakeWinnerSpec)

/-- ITS FALSE NEIGHBOUR: 'it returns false'. Refute it at one input. -/
def fnExactTakeWinnerWrong : ChangeSpec := { name := "fnExactTakeWinner", fn := fun _ => fun
  | [d] => { results := [.lit (.bool false)], args := [d] }
  | _ => none }
def FnExactTakeWinnerWrongFalsely : Prop := fnExactTakeWinnerRow.holds Try.pinned (OpenSpec.ofChange fnExactTakeWinnerWrong)

/-- 'laws.FnExactLeastTakes': WHATEVER THE INPUT: true; the input reads as it did. -/
def fnExactLeastTakesSpec : ChangeSpec := { name := "fnExactLeastTakes", fn := fun _ => fun
  | [d] => { results := [.lit (.bool true)], args := [d] }
  | _ => none }
def fnExactLeastTakesRow : OpenClaim := { program := "ytnmhokkkjpjmeaa", sum := "a8470b8bb4d565845ed8c1d0779081f6ac931d6ec6cc21a6043d0c517c43ea8b", func := "loop.example/g01209/laws.FnExactLeastTakes", spec := "fnExactLeastTakes", unfollowed := true, recurses := true, apart := false }
def FnExactLeastTakesSaid : Prop := fnExactLeastTakesRow.holds Try.pinned (OpenSpec.ofChange fnExactLeastTakesSpec)

/-- ITS FALSE NEIGHBOUR: 'it returns false'. Refute it at one input. -/
def fnExactLeastTakesWrong : ChangeSpec := { name := "fnExactLeastTakes", fn := fun _ => fun
  | [d] => { results := [.lit (.bool false)], args := [d] }
  | _ => none }
def FnExactLeastTakesWrongFalsely : Prop := fnExactLeastTakesRow.holds Try.pinned (OpenSpec.ofChange fnExactLeastTakesWrong)

/-- 'laws.FnExactTakeLength': WHATEVER THE INPUT: true; the input reads as it did. -/
def fnExactTakeLengthSpec : ChangeSpec := { name := "fnExactTakeLength", fn := fun _ => fun
  | [d] => { results := [.lit (.bool true)], args := [d] }
  | _ => none }
def fnExactTakeLengthRow : OpenClaim := { program := "ytnmhokkkjpjmeaa", sum := "a8470b8bb4d565845ed8c1d0779081f6ac931d6ec6cc21a6043d0c517c43ea8b", func := "loop.example/g01209/laws.FnExactTakeLength", spec := "fnExactTakeLength", unfollowed := true, recurses := true, apart := false }
def FnExactTakeLengthSaid : Prop := fnExactTakeLengthRow.holds Try.pinned (OpenSpec.ofChange fnExactTakeLengthSpec)

/-- ITS FALSE NEIGHBOUR: 'it returns false'. Refute it at one input. -/
def fnExactTakeLengthWrong : ChangeSpec := { name := "fnExactTakeLength", fn := fun _ => fun
  | [d] => { results := [.lit (.bool false)], args := [d] }
  | _ => none }
def FnExactTakeLengthWrongFalsely : Prop := fnExactTakeLengthRow.holds Try.pinned (OpenSpec.ofChange fnExactTakeLengthWrong)

/-- 'laws.FnExactGoodTakes': WHATEVER THE INPUT: true; the input reads as it did. -/
def fnExactGoodTakesSpec : ChangeSpec := { name := "fnExactGoodTakes", fn := fun _ => fun
  | [d] => { results := [.lit (.bool true)], args := [d] }
  | _ => none }
def fnExactGoodTakesRow : OpenClaim := { program := "ytnmhokkkjpjmeaa", sum := "a8470b8bb4d565845ed8c1d0779081f6ac931d6ec6cc21a6043d0c517c43ea8b", func := "loop.example/g01209/laws.FnExactGoodTakes", spec := "fnExactGoodTakes", unfollowed := true, recurses := true, apart := false }
def FnExactGoodTakesSaid : Prop := fnExactGoodTakesRow.holds Try.pinned (OpenSpec.ofChange fnExactGoodTakesSpec)

/-- ITS FALSE NEIGHBOUR: 'it returns false'. Refute it at one input. -/
def fnExactGoodTakesWrong : ChangeSpec := { name := "fnExactGoodTakes", fn := fun _ => fun
  | [d] => { results := [.lit (.bool false)], args := [d] }
  | _ => none }
def FnExactGoodTakesWrongFalsely : Prop := fnExactGoodTakesRow.holds Try.pinned (OpenSpec.ofChange fnExactGoodTakesWrong)

/-- 'laws.FnExactTakeLine': WHATEVER THE INPUT: true; the input reads as it did. -/
def fnExactTakeLineSpec : ChangeSpec := { name := "fnExactTakeLine", fn := fun _ => fun
  | [d] => { results := [.lit (.bool true)], args := [d] }
  | _ => none }
def fnExactTakeLineRow : OpenClaim := { program := "ytnmhokkkjpjmeaa", sum := "a8470b8bb4d565845ed8c1d0779081f6ac931d6ec6cc21a6043d0c517c43ea8b", func := "loop.example/g01209/laws.FnExactTakeLine", spec := "fnExactTakeLine", unfollowed := true, recurses := true, apart := false }
def FnExactTakeLineSaid : Prop := fnExactTakeLineRow.holds Try.pinned (OpenSpec.ofChange fnExactTakeLineSpec)

/-- ITS FALSE NEIGHBOUR: 'it returns false'. Refute it at one input. -/
def fnExactTakeLineWrong : ChangeSpec := { name := "fnExactTakeLine", fn := fun _ => fun
  | [d] => { results := [.lit (.bool false)], args := [d] }
  | _ => none }
def FnExactTakeLineWrongFalsely : Prop := fnExactTakeLineRow.holds Try.pinned (OpenSpec.ofChange fnExactTakeLineWrong)

/- THE SECOND FORM. 'bulk': how many values and letters a reading holds, each counted each time it is reached (what is shared counts as often as it is met; a slice's spare places count too). A statement '..UptoSaid' is the law's where the arguments, and the package variables that the reading takes, are together of bulk at most 1048576: NARROWER than '..Said'. Prove '..Said' where nothing that the law and all that it calls make is longer than what came in: it says more and counts as full. Else prove '..UptoSaid'. A law counts once. -/
mutual
def uptoBulk {H : Type} : DataW H → Nat
  | .lit (.string bytes) => bytes.length + 1
  | .lit _ => 1
  | .nil => 1
  | .ptr d => uptoBulk d + 1
  | .slice elems spare => uptoBulkAll elems + uptoBulkAll spare + 1
  | .agg parts => uptoBulkAll parts + 1
  | .iface _ d => uptoBulk d + 1
  | .map entries => uptoBulkEntries entries + 1
  | .held _ => 1
def uptoBulkAll {H : Type} : List (DataW H) → Nat
  | [] => 0
  | d :: r => uptoBulk d + uptoBulkAll r
def uptoBulkEntries {H : Type} : List (Lit × DataW H) → Nat
  | [] => 0
  | x :: r => uptoBulkEntry x + uptoBulkEntries r
def uptoBulkEntry {H : Type} : Lit × DataW H → Nat
  | (.string bytes, d) => bytes.length + uptoBulk d + 1
  | (_, d) => uptoBulk d + 1
 end
def uptoSmall : (H : Type) → List (DataW H) → Bool := fun _ ds => decide (uptoBulkAll ds ≤ 1048576)
def OpenSpec.upto (s : _root_.Go.ChangeSpec) : _root_.Go.OpenSpec := { _root_.Go.OpenSpec.ofChange s with cond := some uptoSmall }

/-- 'laws.FnExactCountHomeSets', WHERE WHAT IT READS IS OF BULK AT MOST 1048576: true; the input reads as it did. -/
def fnExactCountHomeSetsUptoRow : OpenClaim := { program := "ytnmhokkkjpjmeaa", sum := "a8470b8bb4d565845ed8c1d0779081f6ac931d6ec6cc21a6043d0c517c43ea8b", func := "loop.example/g01209/laws.FnExactCountHomeSets", spec := "fnExactCountHomeSets", unfollowed := true, recurses := true, apart := false, narrowed := true }
def FnExactCountHomeSetsUptoSaid : Prop := fnExactCountHomeSetsUptoRow.holds Try.pinned (OpenSpec.upto fnExactCountHomeSetsSpec)

/-- 'laws.FnExactPlayTakes', WHERE WHAT IT READS IS OF BULK AT MOST 1048576: true; the input reads as it did. -/
def fnExactPlayTakesUptoRow : OpenClaim := { program := "ytnmhokkkjpjmeaa", sum := "a8470b8bb4d565845ed8c1d0779081f6ac931d6ec6cc21a6043d0c517c43ea8b", func := "loop.example/g01209/laws.FnExactPlayTakes", spec := "fnExactPlayTakes", unfollowed := true, recurses := true, apart := false, narrowed := true }
def FnExactPlayTakesUptoSaid : Prop := fnExactPlayTakesUptoRow.holds Try.pinned (OpenSpec.upto fnExactPlayTakesSpec)

/-- 'laws.FnExactTakeWinner', WHERE WHAT IT READS IS OF BULK AT MOST 1048576: true; the input reads as it did. -/
def fnExactTakeWinnerUptoRow : OpenClaim := { program := "ytnmhokkkjpjmeaa", sum := "a8470b8bb4d565845ed8c1d0779081f6ac931d6ec6cc21a6043d0c517c43ea8b", func := "loop.example/g01209/laws.FnExactTakeWinner", spec := "fnExactTakeWinner", unfollowed := true, recurses := true, apart := false, narrowed := true }
def FnExactTakeWinnerUptoSaid : Prop := fnExactTakeWinnerUptoRow.holds Try.pinned (OpenSpec.upto fnExactTakeWinnerSpec)

/-- 'laws.FnExactLeastTakes', WHERE WHAT IT READS IS OF BULK AT MOST 1048576: true; the input reads as it did. -/
def fnExactLeastTakesUptoRow : OpenClaim := { program := "ytnmhokkkjpjmeaa", sum := "a8470b8bb4d565845ed8c1d0779081f6ac931d6ec6cc21a6043d0c517c43ea8b", func := "loop.example/g01209/laws.FnExactLeastTakes", spec := "fnExactLeastTakes", unfollowed := true, recurses := true, apart := false, narrowed := true }
def FnExactLeastTakesUptoSaid : Prop := fnExactLeastTakesUptoRow.holds Try.pinned (OpenSpec.upto fnExactLeastTakesSpec)

/-- 'laws.FnExactTakeLength', WHERE WHAT IT READS IS OF BULK AT MOST 1048576: true; the input reads as it did. -/
def fnExactTakeLengthUptoRow : OpenClaim := { program := "ytnmhokkkjpjmeaa", sum := "a8470b8bb4d565845ed8c1d0779081f6ac931d6ec6cc21a6043d0c517c43ea8b", func := "loop.example/g01209/laws.FnExactTakeLength", spec := "fnExactTakeLength", unfollowed := true, recurses := true, apart := false, narrowed := true }
def FnExactTakeLengthUptoSaid : Prop := fnExactTakeLengthUptoRow.holds Try.pinned (OpenSpec.upto fnExactTakeLengthSpec)

/-- 'laws.FnExactGoodTakes', WHERE WHAT IT READS IS OF BULK AT MOST 1048576: true; the input reads as it did. -/
def fnExactGoodTakesUptoRow : OpenClaim := { program := "ytnmhokkkjpjmeaa", sum := "a8470b8bb4d565845ed8c1d0779081f6ac931d6ec6cc21a6043d0c517c43ea8b", func := "loop.example/g01209/laws.FnExactGoodTakes", spec := "fnExactGoodTakes", unfollowed := true, recurses := true, apart := false, narrowed := true }
def FnExactGoodTakesUptoSaid : Prop := fnExactGoodTakesUptoRow.holds Try.pinned (OpenSpec.upto fnExactGoodTakesSpec)

/-- 'laws.FnExactTakeLine', WHERE WHAT IT READS IS OF BULK AT MOST 1048576: true; the input reads as it did. -/
def fnExactTakeLineUptoRow : OpenClaim := { program := "ytnmhokkkjpjmeaa", sum := "a8470b8bb4d565845ed8c1d0779081f6ac931d6ec6cc21a6043d0c517c43ea8b", func := "loop.example/g01209/laws.FnExactTakeLine", spec := "fnExactTakeLine", unfollowed := true, recurses := true, apart := false, narrowed := true }
def FnExactTakeLineUptoSaid : Prop := fnExactTakeLineUptoRow.holds Try.pinned (OpenSpec.upto fnExactTakeLineSpec)

end Rows
end Go.Proofs.Ytnmhokkkjpjmeaa
