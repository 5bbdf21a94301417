/- Ladders without needless rungs. No program, no memory. -/
import Derived.Test.YtjppgokdocjljaaB2
import Derived.Test.YtjppgokdocjljaaB5
import Derived.Test.YtjppgokdocjljaaQlsInv
import Derived.Test.YtjppgokdocjljaaQinverted
import Derived.Test.YtjppgokdocjljaaQlaResult
import Derived.Test.YtjppgokdocjljaaQresult
import Derived.Test.YtjppgokdocjljaaQlaGood
namespace Go.Proofs.Ytjppgokdocjljaa.Q
open Go.RowKit Go.Proofs.Ytjppgokdocjljaa.B Go.Proofs.YtjppgokdocjljaaW.PrintWords Go.Proofs.YtjppgokdocjljaaW.PrintLast Go.Proofs.YtjppgokdocjljaaW.PrintMore
set_option linter.unusedVariables false
set_option linter.unusedSimpArgs false
def lastingB (n : Nat) (l : List Int) : Bool := decide (l.length = (ips (res n l) 0 n).length)
theorem gaLasting_ev (n : Nat) (l : List Int) : Ev (fun k => spec_gaLasting.f k (n : Int) l) (isLadderB n l && lastingB n l) := by
  unfold spec_gaLasting.f
  refine Ev.bind (laGood_ev _ l) ?_
  refine Ev.iteb (fun h => ?_) (fun h => ?_)
  · have hl := (isLadderB_iff _ l).1 h
    refine Ev.bind (laResult_ev n l (by omega) (by omega)) ?_
    refine Ev.bind (lsInversions_ev _ (by rw [res_length]; omega)) ?_
    refine Ev.eq (Ev.now _) ?_
    rw [h, res_length, lastingB, Bool.true_and, Bool.eq_iff_iff]; simp
    omega
  · rw [h, Bool.false_and]; exact Ev.now _
theorem needless_ev (n : Nat) (l : List Int) (hn : n ≤ 8) (hl : l.length ≤ 1000000) : Ev (fun k => impl_needless.f k (n : Int) l) ((l.length : Int) - ((ips (res n l) 0 n).length : Int)) := by
  unfold impl_needless.f impl_inversions.f
  refine Ev.bind (result_ev n l hn hl) ?_
  refine Ev.bind (Ev.bind (inverted_ev _ (by rw [res_length]; omega)) (Ev.now _)) ?_
  refine Ev.eq (Ev.now _) ?_
  have h := ips_length (res n l) n 0
  have h2 : n * n ≤ 8 * 8 := Nat.mul_le_mul hn hn
  rw [res_length]
  exact wrap_in (by omega) (by omega)
end Go.Proofs.Ytjppgokdocjljaa.Q
