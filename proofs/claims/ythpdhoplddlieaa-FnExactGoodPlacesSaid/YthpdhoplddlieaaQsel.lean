/- The numbers below a bound of which something is so. No program, no memory. -/
import Derived.Test.YthpdhoplddlieaaQ0
namespace Go.Proofs.Ythpdhoplddlieaa.Q
open Go.RowKit Go.Proofs.Ythpdhoplddlieaa.B Go.Proofs.YthpdhoplddlieaaW.PrintWords Go.Proofs.YthpdhoplddlieaaW.PrintLast Go.Proofs.YthpdhoplddlieaaW.PrintMore
set_option linter.unusedVariables false
set_option linter.unusedSimpArgs false
def sel (p : Nat → Bool) (j : Nat) : List Int := ((List.range j).filter p).map (fun (i : Nat) => (i : Int))
theorem sel_zero (p : Nat → Bool) : sel p 0 = [] := rfl
theorem sel_yes {p : Nat → Bool} {j : Nat} (h : p j = true) : sel p (j + 1) = sel p j ++ [(j : Int)] := by
  unfold sel; rw [List.range_succ, List.filter_append, List.filter_cons]; simp [h]
theorem sel_no {p : Nat → Bool} {j : Nat} (h : p j = false) : sel p (j + 1) = sel p j := by
  unfold sel; rw [List.range_succ, List.filter_append, List.filter_cons]; simp [h]
theorem sel_length (p : Nat → Bool) (j : Nat) : (sel p j).length ≤ j := by
  unfold sel; rw [List.length_map]; exact Nat.le_trans (List.length_filter_le _ _) (by simp)
end Go.Proofs.Ythpdhoplddlieaa.Q
