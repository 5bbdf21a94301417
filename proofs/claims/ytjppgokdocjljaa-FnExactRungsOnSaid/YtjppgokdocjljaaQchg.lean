/- How often a list's neighbours differ. No program, no memory. -/
import Derived.Test.YtjppgokdocjljaaQ0
namespace Go.Proofs.Ytjppgokdocjljaa.Q
open Go.RowKit Go.Proofs.Ytjppgokdocjljaa.B Go.Proofs.YtjppgokdocjljaaW.PrintWords Go.Proofs.YtjppgokdocjljaaW.PrintLast Go.Proofs.YtjppgokdocjljaaW.PrintMore
set_option linter.unusedVariables false
set_option linter.unusedSimpArgs false
def chg (x : List Int) : Nat → Nat → Nat
  | _, 0 => 0
  | j, d + 1 => (if rd x (j : Int) = rd x ((j + 1 : Nat) : Int) then 0 else 1) + chg x (j + 1) d
theorem chg_le (x : List Int) (d : Nat) : ∀ j, chg x j d ≤ d := by
  induction d with
  | zero => intro j; simp [chg]
  | succ d ih => intro j; have := ih (j + 1); simp only [chg]; split <;> omega
end Go.Proofs.Ytjppgokdocjljaa.Q
