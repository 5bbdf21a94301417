/- Plain lemmas on the laws' own helpers: copies are equal to what they copy, equal lists compare equal, marks are held. No program, no memory. -/
import Derived.Test.YtgbpkajbddokoaaE
namespace Go.Proofs.Ytgbpkajbddokoaa.Q
open Go.RowKit Go.Proofs.Ytgbpkajbddokoaa.B Go.Proofs.YtgbpkajbddokoaaW.PrintWords Go.Proofs.YtgbpkajbddokoaaW.PrintLast Go.Proofs.YtgbpkajbddokoaaW.PrintMore
set_option linter.unusedVariables false
set_option linter.unusedSimpArgs false
/-! Steps of indices. -/
theorem wrap_succ {i : Int} {n : Nat} (h0 : 0 ≤ i) (h : i < (n : Int)) (hn : n ≤ 9223372036854775807) : wrap64 (i + 1) = i + 1 := by
  unfold wrap64; omega
theorem wrap_in {i : Int} (h0 : -9223372036854775808 ≤ i) (h : i ≤ 9223372036854775807) : wrap64 i = i := by
  unfold wrap64; omega
theorem rd_nat (l : List Int) (j : Nat) (hj : j < l.length) : rd l (j : Int) = l[j] := by
  unfold rd; simp [hj]
theorem copy_step (l : List Int) (j : Nat) (hj : j < l.length) :
    (l.take j ++ List.replicate (l.length - j) 0).set j (l.getD j 0) = l.take (j + 1) ++ List.replicate (l.length - (j + 1)) 0 := by
  have e1 : l.length - j = (l.length - (j + 1)) + 1 := by omega
  have e2 : (l.take j).length = j := by rw [List.length_take]; omega
  rw [List.set_append_right (h := by omega), e2, e1, List.replicate_succ, Nat.sub_self, List.set_cons_zero, List.take_succ_eq_append_getElem hj, List.append_assoc]
  rw [List.getD_eq_getElem?_getD, List.getElem?_eq_getElem hj]
  rfl
end Go.Proofs.Ytgbpkajbddokoaa.Q
