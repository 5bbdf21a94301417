/- Is everybody at home? The reference's way. No program, no memory. -/
import Derived.Test.YtnmhokkkjpjmeaaB1
import Derived.Test.YtnmhokkkjpjmeaaQlaResult
import Derived.Test.YtnmhokkkjpjmeaaQhome
namespace Go.Proofs.Ytnmhokkkjpjmeaa.Q
open Go.RowKit Go.Proofs.Ytnmhokkkjpjmeaa.B Go.Proofs.YtnmhokkkjpjmeaaW.PrintWords Go.Proofs.YtnmhokkkjpjmeaaW.PrintLast Go.Proofs.YtnmhokkkjpjmeaaW.PrintMore
set_option linter.unusedVariables false
set_option linter.unusedSimpArgs false
theorem gaHome_ev (n : Nat) (l : List Int) (hn : n ≤ 8) (hl : l.length ≤ 1000000) : Ev (fun k => spec_gaHome.f k (n : Int) l) (homeB n l) := by
  unfold spec_gaHome.f
  refine Ev.bind (laResult_ev n l hn hl) ?_
  have key := Ev.upto (L := fun k j (_ : Unit) => spec_gaHome.l0 k (res n l) ((res n l).length : Int) (j : Int)) (R := fun j _ => (List.range' j (n - j)).all fun i => decide ((i : Int) = endOf (i : Int) l)) (n := n)
    (fun _ => by
      refine Ev.succ (Ev.ret fun k => ?_)
      rw [spec_gaHome.l0, if_neg (by rw [res_length]; omega), Nat.sub_self]; rfl)
    (fun j _ hj ih => by
      refine Ev.succ ?_
      have h1 : (j : Int) < ((res n l).length : Int) := by rw [res_length]; omega
      have h0 : (0 : Int) ≤ (j : Int) := by omega
      have hj' : j < (res n l).length := by rw [res_length]; exact hj
      have e : n - j = (n - (j + 1)) + 1 := by omega
      have er : rd (res n l) (j : Int) = endOf (j : Int) l := by rw [rd_nat _ j hj']; simp [res]
      simp only [spec_gaHome.l0, h1, h0, if_true, er, wrap_nat j n hj (by omega)]
      rw [e, List.range'_succ, List.all_cons]
      refine Ev.ite (fun h => ?_) (fun h => ?_)
      · rw [decide_eq_true h, Bool.true_and]; exact ih ()
      · rw [decide_eq_false h, Bool.false_and]; exact Ev.now _)
  exact key 0 () (Nat.zero_le _)
end Go.Proofs.Ytnmhokkkjpjmeaa.Q
