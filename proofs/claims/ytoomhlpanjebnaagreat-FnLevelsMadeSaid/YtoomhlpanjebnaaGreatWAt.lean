/- Words that the walks of this claim use: plain theorems on rows, worlds and rounds; no program. Conditions: those in each statement. (Written by print.sh for this seat; what the claim does not name is left out.) -/
import Derived.Test.YtoomhlpanjebnaaGreatWFootNe
namespace Go.Proofs.YtoomhlpanjebnaaGreatW.PrintWords
open Go.RowKit
section
variable {w w' u : World} {m B g : Nat} {o : Obj} {row : Option Nat} {S : Nat → Prop} {a : Addr} {v : Value}
end
namespace Kd
section
variable {α : Type} {d : Kd α} {e base n m : Nat} {ok : Nat → Prop} {w w' : World} {v : Value} {A : Option Addr} {xs : List α}
end
end Kd
end Go.Proofs.YtoomhlpanjebnaaGreatW.PrintWords
