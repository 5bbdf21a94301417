/- The reference's result. No program, no memory. -/
import Derived.Test.YtnmhokkkjpjmeaaB1
import Derived.Test.YtnmhokkkjpjmeaaQlaDown
namespace Go.Proofs.Ytnmhokkkjpjmeaa.Q
open Go.RowKit Go.Proofs.Ytnmhokkkjpjmeaa.B Go.Proofs.YtnmhokkkjpjmeaaW.PrintWords Go.Proofs.YtnmhokkkjpjmeaaW.PrintLast Go.Proofs.YtnmhokkkjpjmeaaW.PrintMore
set_option linter.unusedVariables false
set_option linter.unusedSimpArgs false
theorem laResult_ev (n : Nat) (l : List Int) (hn : n ≤ 8) (hl : l.length ≤ 1000000) : Ev (fun k => spec_laResult.f k (n : Int) l) (res n l) := by
  have key := Ev.inv (σ := List Int) (L := fun k j s => spec_laResult.l0 k (n : Int) l s (j : Int)) (r := res n l) (n := n)
    (Inv := fun j s => s = (res n l).take j)
    (fun s hs => by
      subst hs
      refine Ev.succ (Ev.ret fun k => ?_)
      rw [spec_laResult.l0, if_neg (by omega), List.take_of_length_le (by rw [res_length]; omega)])
    (fun j s hj hs ih => by
      subst hs
      refine Ev.succ ?_
      have h1 : (j : Int) < (n : Int) := by omega
      have h0 : (0 : Int) ≤ (l.length : Int) := by omega
      have h2 : (l.length : Int) < ((downs (j : Int) l).length : Int) := by rw [downs_length]; omega
      have h3 : ((res n l).take j).length < 17592186044416 := by rw [List.length_take, res_length]; omega
      simp only [spec_laResult.l0, h1, if_true, wrap_nat j n hj (by omega)]
      refine Ev.bind (laDown_ev l (j : Int) hl) ?_
      have e : rd (downs (j : Int) l) (l.length : Int) = endOf (j : Int) l := by
        unfold rd; rw [nat_toNat, List.getD_eq_getElem?_getD, downs_last]; rfl
      simp only [h0, h2, h3, if_true, e]
      exact ih _ (res_take n j l hj).symm)
  exact key 0 [] (Nat.zero_le _) rfl
end Go.Proofs.Ytnmhokkkjpjmeaa.Q
