/- szLadder tells how large a ladder is. No program, no memory. -/
import Derived.Test.YthpdhoplddlieaaB1
import Derived.Test.YthpdhoplddlieaaQ0
namespace Go.Proofs.Ythpdhoplddlieaa.Q
open Go.RowKit Go.Proofs.Ythpdhoplddlieaa.B Go.Proofs.YthpdhoplddlieaaW.PrintWords Go.Proofs.YthpdhoplddlieaaW.PrintLast Go.Proofs.YthpdhoplddlieaaW.PrintMore
set_option linter.unusedVariables false
set_option linter.unusedSimpArgs false
theorem szLadder_f (a : Int) (l : List Int) (hn : l.length ≤ 9223372036854775807) : laws_szLadder.f a l 1048576 = some (if l.length ≤ 1048576 then 1048576 - (l.length : Int) else -1) := by
  unfold laws_szLadder.f laws_szIntS.f
  have e : wrap64 (1048576 - (l.length : Int)) = 1048576 - (l.length : Int) := wrap_in (by omega) (by omega)
  rw [e]
  by_cases h : l.length ≤ 1048576
  · rw [if_neg (by omega), if_pos h, Option.bind_some, if_neg (by omega)]
  · rw [if_pos (by omega), if_neg h]; rfl
end Go.Proofs.Ythpdhoplddlieaa.Q
