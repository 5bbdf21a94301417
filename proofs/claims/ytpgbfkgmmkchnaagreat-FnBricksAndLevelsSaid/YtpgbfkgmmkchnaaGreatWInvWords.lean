/- Words that the walks of this claim use: plain theorems on rows, worlds and rounds; no program. Conditions: those in each statement. (Written by print.sh for this seat; what the claim does not name is left out.) -/
import Derived.Test.YtpgbfkgmmkchnaaGreatWInv
import Derived.Test.YtpgbfkgmmkchnaaGreatWFootNe
namespace Go.Proofs.YtpgbfkgmmkchnaaGreatW.PrintWords
open Go.RowKit
end Go.Proofs.YtpgbfkgmmkchnaaGreatW.PrintWords
namespace Go.Proofs.YtpgbfkgmmkchnaaGreatW.PrintLast
section
variable {ops : Array Oper} {a : Act} {o og : Oper} {g : Nat} {t : Tmp} {u : Bool}
end
end Go.Proofs.YtpgbfkgmmkchnaaGreatW.PrintLast
