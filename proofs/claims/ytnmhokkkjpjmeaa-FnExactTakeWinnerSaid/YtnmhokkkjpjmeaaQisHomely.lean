/- Is everybody at home? The program's way. No program, no memory. -/
import Derived.Test.YtnmhokkkjpjmeaaB1
import Derived.Test.YtnmhokkkjpjmeaaQresult
import Derived.Test.YtnmhokkkjpjmeaaQhome
import Derived.Test.YtnmhokkkjpjmeaaQEqual
namespace Go.Proofs.Ytnmhokkkjpjmeaa.Q
open Go.RowKit Go.Proofs.Ytnmhokkkjpjmeaa.B Go.Proofs.YtnmhokkkjpjmeaaW.PrintWords Go.Proofs.YtnmhokkkjpjmeaaW.PrintLast Go.Proofs.YtnmhokkkjpjmeaaW.PrintMore
set_option linter.unusedVariables false
set_option linter.unusedSimpArgs false
theorem identity_ev (n : Nat) (hn : n ≤ 8) : Ev (fun k => impl_identity.f k (n : Int)) (idL n) := by
  have key := Ev.inv (σ := List Int) (L := fun k j s => impl_identity.l0 k s (n : Int) (j : Int)) (r := idL n) (n := n)
    (Inv := fun j s => s = (idL n).take j)
    (fun s hs => by
      subst hs
      refine Ev.succ (Ev.ret fun k => ?_)
      rw [impl_identity.l0, if_neg (by omega), List.take_of_length_le (by rw [idL_length]; omega)])
    (fun j s hj hs ih => by
      subst hs
      refine Ev.succ ?_
      have h1 : (j : Int) < (n : Int) := by omega
      have h3 : ((idL n).take j).length < 17592186044416 := by rw [List.length_take, idL_length]; omega
      simp only [impl_identity.l0, h1, h3, if_true, wrap_nat j n hj (by omega)]
      refine ih _ ?_
      have hj' : j < (idL n).length := by rw [idL_length]; exact hj
      rw [take_snoc _ j hj']; simp [idL])
  exact key 0 [] (Nat.zero_le _) rfl
theorem isHomely_ev (n : Nat) (l : List Int) (hn : n ≤ 8) (hl : l.length ≤ 1000000) : Ev (fun k => impl_isHomely.f k (n : Int) l) (homeB n l) := by
  unfold impl_isHomely.f
  refine Ev.bind (result_ev n l hn hl) (Ev.bind (identity_ev n hn) ?_)
  refine Ev.bind (Equal_ev _ _ (by rw [res_length]; omega)) ?_
  exact Ev.eq (Ev.now _) (homeB_eq n l).symm
end Go.Proofs.Ytnmhokkkjpjmeaa.Q
