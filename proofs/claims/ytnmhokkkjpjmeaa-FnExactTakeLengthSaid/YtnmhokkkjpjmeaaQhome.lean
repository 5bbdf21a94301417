/- Is everybody at home, as a plain test. No program, no memory. -/
import Derived.Test.YtnmhokkkjpjmeaaQdown
namespace Go.Proofs.Ytnmhokkkjpjmeaa.Q
open Go.RowKit Go.Proofs.Ytnmhokkkjpjmeaa.B Go.Proofs.YtnmhokkkjpjmeaaW.PrintWords Go.Proofs.YtnmhokkkjpjmeaaW.PrintLast Go.Proofs.YtnmhokkkjpjmeaaW.PrintMore
set_option linter.unusedVariables false
set_option linter.unusedSimpArgs false
def homeB (n : Nat) (l : List Int) : Bool := (List.range' 0 n).all fun (i : Nat) => decide ((i : Int) = endOf (i : Int) l)
def idL (n : Nat) : List Int := (List.range n).map fun (i : Nat) => (i : Int)
theorem idL_length (n : Nat) : (idL n).length = n := by simp [idL]
theorem homeB_eq (n : Nat) (l : List Int) : homeB n l = decide (res n l = idL n) := by
  rw [Bool.eq_iff_iff]
  unfold homeB
  rw [List.all_eq_true, decide_eq_true_iff]
  constructor
  · intro h
    unfold res idL
    apply List.map_congr_left
    intro i hi
    have := h i (by simpa using hi)
    exact (of_decide_eq_true this).symm
  · intro h i hi
    have hi' : i < n := by simpa using hi
    have h1 : (res n l)[i]? = (idL n)[i]? := by rw [h]
    simp [res, idL, hi'] at h1
    simp [h1]
end Go.Proofs.Ytnmhokkkjpjmeaa.Q
