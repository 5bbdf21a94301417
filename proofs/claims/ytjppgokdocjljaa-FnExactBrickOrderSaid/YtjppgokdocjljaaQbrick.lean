/- Bricks, as plain lists. No program, no memory. -/
import Derived.Test.YtjppgokdocjljaaQ0
namespace Go.Proofs.Ytjppgokdocjljaa.Q
open Go.RowKit Go.Proofs.Ytjppgokdocjljaa.B Go.Proofs.YtjppgokdocjljaaW.PrintWords Go.Proofs.YtjppgokdocjljaaW.PrintLast Go.Proofs.YtjppgokdocjljaaW.PrintMore
set_option linter.unusedVariables false
set_option linter.unusedSimpArgs false
/-- so many places from r on, every second one -/
def stp : Nat → Nat → List Int
  | 0, _ => []
  | d + 1, r => (r : Int) :: stp d (r + 2)
theorem stp_length (d : Nat) : ∀ r, (stp d r).length = d := by
  induction d with
  | zero => intro r; rfl
  | succ d ih => intro r; simp [stp, ih]
/-- the rungs of a brick -/
def brickL (n j : Nat) : List Int := stp ((n - 1 - j % 2 + 1) / 2) (j % 2)
def bricksL (n m : Nat) : List Int := (List.range m).flatMap (brickL n)
theorem brickL_length (n j : Nat) (hn : n ≤ 8) : (brickL n j).length ≤ 4 := by unfold brickL; rw [stp_length]; omega
theorem bricksL_succ (n m : Nat) : bricksL n (m + 1) = bricksL n m ++ brickL n m := by
  unfold bricksL; rw [List.range_succ, List.flatMap_append]; simp
theorem bricksL_length (n m : Nat) (hn : n ≤ 8) : (bricksL n m).length ≤ 4 * m := by
  induction m with
  | zero => simp [bricksL]
  | succ m ih => rw [bricksL_succ, List.length_append]; have := brickL_length n m hn; omega
end Go.Proofs.Ytjppgokdocjljaa.Q
