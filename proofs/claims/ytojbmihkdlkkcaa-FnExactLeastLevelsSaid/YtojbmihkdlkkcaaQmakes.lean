/- For which orders all orders are looked at: the program and the reference tell the same. No program's memory. -/
import Derived.Test.YtojbmihkdlkkcaaB5
import Derived.Test.YtojbmihkdlkkcaaQfar
import Derived.Test.YtojbmihkdlkkcaaQl1In
import Derived.Test.YtojbmihkdlkkcaaQisOrder
import Derived.Test.YtojbmihkdlkkcaaQlaOrder
import Derived.Test.YtojbmihkdlkkcaaQbetween
namespace Go.Proofs.Ytojbmihkdlkkcaa.Q
open Go.RowKit Go.Proofs.Ytojbmihkdlkkcaa.B Go.Proofs.YtojbmihkdlkkcaaW.PrintWords Go.Proofs.YtojbmihkdlkkcaaW.PrintLast Go.Proofs.YtojbmihkdlkkcaaW.PrintMore
set_option linter.unusedVariables false
set_option linter.unusedSimpArgs false
theorem isMade_ev (p : List Int) : Ev (fun k => impl_isMade.f k p) (decide (orderB p = true ∧ 2 ≤ p.length ∧ p.length ≤ 6)) := by
  unfold impl_isMade.f
  refine Ev.bind (isOrder_ev p) ?_
  cases h : orderB p with
  | false => simpa using Ev.now _
  | true =>
    simp only [if_true, btw_f, Option.bind_some]
    refine Ev.ret fun k => ?_
    congr 1
    rw [Bool.eq_iff_iff, inB_iff, decide_eq_true_iff]
    simp only [true_and]
    omega
theorem lvMade_ev (p : List Int) : Ev (fun k => spec_lvMade.f k p) (decide (orderB p = true ∧ 2 ≤ p.length ∧ p.length ≤ 6)) := by
  unfold spec_lvMade.f
  refine Ev.bind (laOrder_ev p) ?_
  cases h : orderB p with
  | false => simpa using Ev.now _
  | true =>
    simp only [if_true, l1In_f, Option.bind_some]
    refine Ev.ret fun k => ?_
    congr 1
    rw [Bool.eq_iff_iff, inB_iff, decide_eq_true_iff]
    simp only [true_and]
    omega
end Go.Proofs.Ytojbmihkdlkkcaa.Q
