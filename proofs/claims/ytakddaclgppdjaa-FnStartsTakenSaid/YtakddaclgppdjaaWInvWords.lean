/- Words that the walks of this claim use: plain theorems on rows, worlds and rounds; no program. Conditions: those in each statement. (Written by print.sh for this seat; what the claim does not name is left out.) -/
import Derived.Test.YtakddaclgppdjaaWInv
import Derived.Test.YtakddaclgppdjaaWFootNe
namespace Go.Proofs.YtakddaclgppdjaaW.PrintWords
open Go.RowKit
end Go.Proofs.YtakddaclgppdjaaW.PrintWords
namespace Go.Proofs.YtakddaclgppdjaaW.PrintLast
section
variable {ops : Array Oper} {a : Act} {o og : Oper} {g : Nat} {t : Tmp} {u : Bool}
end
end Go.Proofs.YtakddaclgppdjaaW.PrintLast
