/-
  DERIVED. GIVEN WITH THE SEED: THE CARDS: each row of YtjppgokdocjljaaDoorRows.lean that lists a variable, with what it lists TIED to the program's text (the seventh form; the later family's looks); each row that meets fmt, with fmt's text TOLD by the authors' own Lean function (tested against real Go, not proved from fmt's source: count such statements apart). THE CARD IS WHAT COUNTS. Prove the row's statement (the work); the ties are given (YtjppgokdocjljaaDoorTie.lean); close each card by the builder's one call (the guide's Derived/Test/ToyasCard.lean, 'card_holds'). Laid BY PROGRAM, IN A SANDBOX (cutbox-door.mjs). By AI agents, Wed Nov 11 2026. No macro, syntax, notation, axiom, sorry.
-/
import Derived.Test.YtjppgokdocjljaaDoorRows
import GoSem.ClaimSeven
namespace Go.Proofs.YtjppgokdocjljaaDoor
namespace Rows

/-- THE TIED CARD OF 'laws.FnExactAreSameFor'. -/
def fnExactAreSameForCard : Claim7 := { stood := { row := fnExactAreSameForRow, standIns := [], harness := (true, "e84841ddfb3bf92e650ab4b60a013a0c4c893129097472e390754d573251979e"), looks := false }, kinds := [], alts := [], laidByText := true, laidKinds := [.data, .pinned], laidTests := true, laidLooks := .later }
def FnExactAreSameForCardSaid : Prop := Claim7.holds Tryd.pinned (.plain (OpenSpec.ofChange fnExactAreSameForSpec)) fnExactAreSameForCard

/-- THE TIED CARD OF 'laws.FnExactPrizesOf'. -/
def fnExactPrizesOfCard : Claim7 := { stood := { row := fnExactPrizesOfRow, standIns := [], harness := (true, "e84841ddfb3bf92e650ab4b60a013a0c4c893129097472e390754d573251979e"), looks := false }, kinds := [], alts := [], laidByText := true, laidKinds := [.data, .pinned], laidTests := true, laidLooks := .later }
def FnExactPrizesOfCardSaid : Prop := Claim7.holds Tryd.pinned (.plain (OpenSpec.ofChange fnExactPrizesOfSpec)) fnExactPrizesOfCard

/-- THE TIED CARD OF 'laws.FnExactStartsFor'. -/
def fnExactStartsForCard : Claim7 := { stood := { row := fnExactStartsForRow, standIns := [], harness := (true, "e84841ddfb3bf92e650ab4b60a013a0c4c893129097472e390754d573251979e"), looks := false }, kinds := [], alts := [], laidByText := true, laidKinds := [.data, .pinned], laidTests := true, laidLooks := .later }
def FnExactStartsForCardSaid : Prop := Claim7.holds Tryd.pinned (.plain (OpenSpec.ofChange fnExactStartsForSpec)) fnExactStartsForCard

/-- THE SECOND FORM's CARD OF 'laws.FnExactAreSameFor'. -/
def fnExactAreSameForUptoCard : Claim7 := { stood := { row := fnExactAreSameForUptoRow, standIns := [], harness := (true, "e84841ddfb3bf92e650ab4b60a013a0c4c893129097472e390754d573251979e"), looks := false }, kinds := [], alts := [], laidByText := true, laidKinds := [.data, .pinned], laidTests := true, laidLooks := .later }
def FnExactAreSameForUptoCardSaid : Prop := Claim7.holds Tryd.pinned (.plain (OpenSpec.upto fnExactAreSameForSpec)) fnExactAreSameForUptoCard

/-- THE SECOND FORM's CARD OF 'laws.FnExactPrizesOf'. -/
def fnExactPrizesOfUptoCard : Claim7 := { stood := { row := fnExactPrizesOfUptoRow, standIns := [], harness := (true, "e84841ddfb3bf92e650ab4b60a013a0c4c893129097472e390754d573251979e"), looks := false }, kinds := [], alts := [], laidByText := true, laidKinds := [.data, .pinned], laidTests := true, laidLooks := .later }
def FnExactPrizesOfUptoCardSaid : Prop := Claim7.holds Tryd.pinned (.plain (OpenSpec.upto fnExactPrizesOfSpec)) fnExactPrizesOfUptoCard

/-- THE SECOND FORM's CARD OF 'laws.FnExactStartsFor'. -/
def fnExactStartsForUptoCard : Claim7 := { stood := { row := fnExactStartsForUptoRow, standIns := [], harness := (true, "e84841ddfb3bf92e650ab4b60a013a0c4c893129097472e390754d573251979e"), looks := false }, kinds := [], alts := [], laidByText := true, laidKinds := [.data, .pinned], laidTests := true, laidLooks := .later }
def FnExactStartsForUptoCardSaid : Prop := Claim7.holds Tryd.pinned (.plain (OpenSpec.upto fnExactStartsForSpec)) fnExactStartsForUptoCard
end Rows
end Go.Proofs.YtjppgokdocjljaaDoor
