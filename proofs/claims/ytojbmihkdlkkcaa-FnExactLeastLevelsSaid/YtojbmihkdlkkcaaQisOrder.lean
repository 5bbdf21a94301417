/- The program tells orders. No program, no memory. -/
import Derived.Test.YtojbmihkdlkkcaaB5
import Derived.Test.YtojbmihkdlkkcaaQorder
import Derived.Test.YtojbmihkdlkkcaaQbetween
import Derived.Test.YtojbmihkdlkkcaaQContains
namespace Go.Proofs.Ytojbmihkdlkkcaa.Q
open Go.RowKit Go.Proofs.Ytojbmihkdlkkcaa.B Go.Proofs.YtojbmihkdlkkcaaW.PrintWords Go.Proofs.YtojbmihkdlkkcaaW.PrintLast Go.Proofs.YtojbmihkdlkkcaaW.PrintMore
set_option linter.unusedVariables false
set_option linter.unusedSimpArgs false
theorem isOrder_ev (p : List Int) : Ev (fun k => impl_isOrder.f k p) (orderB p) := by
  unfold impl_isOrder.f orderB
  simp only [btw_f, Option.bind_some]
  refine Ev.iteb (fun h => ?_) (fun h => ?_)
  · rw [h, Bool.true_and]
    have hn : 1 ≤ (p.length : Int) ∧ (p.length : Int) ≤ 8 := by unfold inB at h; simpa using h
    have key := Ev.upto (L := fun k j (_ : Unit) => impl_isOrder.l0 k p p (p.length : Int) (j : Int)) (R := fun j _ => (List.range' j (p.length - j)).all (orderAt p)) (n := p.length)
      (fun _ => by
        refine Ev.succ (Ev.ret fun k => ?_)
        rw [impl_isOrder.l0, if_neg (by omega), Nat.sub_self]; rfl)
      (fun j _ hj ih => by
        refine Ev.succ ?_
        have h1 : (j : Int) < (p.length : Int) := by omega
        have h0 : (0 : Int) ≤ (j : Int) := by omega
        have h2 : (j : Int) ≤ (p.length : Int) := by omega
        have e : p.length - j = (p.length - (j + 1)) + 1 := by omega
        simp only [impl_isOrder.l0, h1, h0, h2, if_true, btw_f, Option.bind_some, wrap_nat j p.length hj (by omega), nat_toNat]
        rw [e, List.range'_succ, List.all_cons, orderAt]
        refine Ev.iteb (fun h => ?_) (fun h => ?_)
        · rw [h, Bool.true_and]
          refine Ev.bind (Contains_ev _ _ (by rw [List.length_take]; omega)) ?_
          refine Ev.iteb (fun h => ?_) (fun h => ?_)
          · rw [h]; exact Ev.now _
          · rw [h]; exact ih ()
        · rw [h]; exact Ev.now _)
    exact key 0 () (Nat.zero_le _)
  · rw [h]; exact Ev.now _
end Go.Proofs.Ytojbmihkdlkkcaa.Q
