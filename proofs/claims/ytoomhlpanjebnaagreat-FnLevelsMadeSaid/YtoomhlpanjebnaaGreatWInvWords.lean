/- Words that the walks of this claim use: plain theorems on rows, worlds and rounds; no program. Conditions: those in each statement. (Written by print.sh for this seat; what the claim does not name is left out.) -/
import Derived.Test.YtoomhlpanjebnaaGreatWInv
import Derived.Test.YtoomhlpanjebnaaGreatWFootNe
namespace Go.Proofs.YtoomhlpanjebnaaGreatW.PrintWords
open Go.RowKit
end Go.Proofs.YtoomhlpanjebnaaGreatW.PrintWords
namespace Go.Proofs.YtoomhlpanjebnaaGreatW.PrintLast
section
variable {ops : Array Oper} {a : Act} {o og : Oper} {g : Nat} {t : Tmp} {u : Bool}
end
end Go.Proofs.YtoomhlpanjebnaaGreatW.PrintLast
