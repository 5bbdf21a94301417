/- Words that the walks of this claim use: plain theorems on rows, worlds and rounds; no program. Conditions: those in each statement. (Written by print.sh for this seat; what the claim does not name is left out.) -/
import Derived.Test.YtakddaclgppdjaaWN
namespace Go.Proofs.YtakddaclgppdjaaW.PrintWords
open Go.RowKit
namespace Kd
section
variable {α : Type} {d : Kd α} {e base n cap g : Nat} {ok ok' okp : Nat → Prop} {w w1 W : World} {v v1 : Value} {xs ys : List α}
end
section
variable {P : Program} {ops : Array Oper} {rest : List Oper} {o : Oper} {a : Act} {Q : Exit → Act → World → Prop} {Kc : Act → World → Prop} {α : Type}
end
end Kd
end Go.Proofs.YtakddaclgppdjaaW.PrintWords
