/- Increasing lists of numbers below one. No program, no memory. -/
import Derived.Test.YtjppgokdocjljaaQ0
namespace Go.Proofs.Ytjppgokdocjljaa.Q
open Go.RowKit Go.Proofs.Ytjppgokdocjljaa.B Go.Proofs.YtjppgokdocjljaaW.PrintWords Go.Proofs.YtjppgokdocjljaaW.PrintLast Go.Proofs.YtjppgokdocjljaaW.PrintMore
set_option linter.unusedVariables false
set_option linter.unusedSimpArgs false
def riseAt (l : List Int) (b : Int) (i : Nat) : Bool := inB (rd l i) 0 (wrap64 (b - 1)) && (decide (i = 0) || decide (rd l ((i : Int) - 1) < rd l i))
def risingB (l : List Int) (b : Int) : Bool := (List.range' 0 l.length).all (riseAt l b)
end Go.Proofs.Ytjppgokdocjljaa.Q
