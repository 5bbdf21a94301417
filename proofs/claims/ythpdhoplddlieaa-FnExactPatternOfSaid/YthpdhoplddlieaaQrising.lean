/- Increasing lists of numbers below one. No program, no memory. -/
import Derived.Test.YthpdhoplddlieaaQ0
namespace Go.Proofs.Ythpdhoplddlieaa.Q
open Go.RowKit Go.Proofs.Ythpdhoplddlieaa.B Go.Proofs.YthpdhoplddlieaaW.PrintWords Go.Proofs.YthpdhoplddlieaaW.PrintLast Go.Proofs.YthpdhoplddlieaaW.PrintMore
set_option linter.unusedVariables false
set_option linter.unusedSimpArgs false
def riseAt (l : List Int) (b : Int) (i : Nat) : Bool := inB (rd l i) 0 (wrap64 (b - 1)) && (decide (i = 0) || decide (rd l ((i : Int) - 1) < rd l i))
def risingB (l : List Int) (b : Int) : Bool := (List.range' 0 l.length).all (riseAt l b)
end Go.Proofs.Ythpdhoplddlieaa.Q
