/- The pairs that stand the wrong way round, as plain lists. No program, no memory. -/
import Derived.Test.YtjppgokdocjljaaQ0
namespace Go.Proofs.Ytjppgokdocjljaa.Q
open Go.RowKit Go.Proofs.Ytjppgokdocjljaa.B Go.Proofs.YtjppgokdocjljaaW.PrintWords Go.Proofs.YtjppgokdocjljaaW.PrintLast Go.Proofs.YtjppgokdocjljaaW.PrintMore
set_option linter.unusedVariables false
set_option linter.unusedSimpArgs false
def irow (p : List Int) (i : Nat) : Nat → Nat → List (List Int)
  | _, 0 => []
  | j, d + 1 => (if rd p (i : Int) > rd p (j : Int) then [[(i : Int), (j : Int)]] else []) ++ irow p i (j + 1) d
def ips (p : List Int) : Nat → Nat → List (List Int)
  | _, 0 => []
  | i, d + 1 => irow p i (i + 1) d ++ ips p (i + 1) d
theorem irow_length (p : List Int) (i : Nat) (d : Nat) : ∀ j, (irow p i j d).length ≤ d := by
  induction d with
  | zero => intro j; simp [irow]
  | succ d ih => intro j; have := ih (j + 1); simp only [irow, List.length_append]; split <;> simp <;> omega
theorem ips_length (p : List Int) (d : Nat) : ∀ i, (ips p i d).length ≤ d * d := by
  induction d with
  | zero => intro j; simp [ips]
  | succ d ih =>
    intro i
    have h1 := ih (i + 1)
    have h2 := irow_length p i d (i + 1)
    have h3 : (d + 1) * (d + 1) = d * d + d + d + 1 := by rw [Nat.add_mul, Nat.mul_add]; omega
    simp only [ips, List.length_append]
    omega
end Go.Proofs.Ytjppgokdocjljaa.Q
