/- Words that the walks of this claim use: plain theorems on rows, worlds and rounds; no program. Conditions: those in each statement. (Written by print.sh for this seat; what the claim does not name is left out.) -/
import Derived.Test.YtkejpggjmjlfpaaWInv
import Derived.Test.YtkejpggjmjlfpaaWFootNe
namespace Go.Proofs.YtkejpggjmjlfpaaW.PrintWords
open Go.RowKit
end Go.Proofs.YtkejpggjmjlfpaaW.PrintWords
namespace Go.Proofs.YtkejpggjmjlfpaaW.PrintLast
section
variable {ops : Array Oper} {a : Act} {o og : Oper} {g : Nat} {t : Tmp} {u : Bool}
end
end Go.Proofs.YtkejpggjmjlfpaaW.PrintLast
