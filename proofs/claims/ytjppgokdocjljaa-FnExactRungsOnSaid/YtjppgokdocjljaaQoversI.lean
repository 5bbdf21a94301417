/- The program's counts of rungs on a way. No program, no memory. -/
import Derived.Test.YtjppgokdocjljaaB7
import Derived.Test.YtjppgokdocjljaaQchg
namespace Go.Proofs.Ytjppgokdocjljaa.Q
open Go.RowKit Go.Proofs.Ytjppgokdocjljaa.B Go.Proofs.YtjppgokdocjljaaW.PrintWords Go.Proofs.YtjppgokdocjljaaW.PrintLast Go.Proofs.YtjppgokdocjljaaW.PrintMore
set_option linter.unusedVariables false
set_option linter.unusedSimpArgs false
theorem overs_l0 (x : List Int) (n : Nat) (hx : x.length = n + 1) (hn : n ≤ 1000000) (d : Nat) : ∀ (j c : Nat), j + d = n → c ≤ j →
    Ev (fun k => impl_overs.l0 k x (c : Int) ((j + 1 : Nat) : Int)) ((c + chg x j d : Nat) : Int) := by
  induction d with
  | zero =>
    intro j c hj _
    refine Ev.succ ?_
    have g1 : ¬ ((j + 1 : Nat) : Int) < (x.length : Int) := by omega
    simp only [impl_overs.l0, g1, if_false]
    exact Ev.now _
  | succ d ih =>
    intro j c hj hc
    refine Ev.succ ?_
    have g1 : ((j + 1 : Nat) : Int) < (x.length : Int) := by omega
    have g2 : (0 : Int) ≤ ((j + 1 : Nat) : Int) := by omega
    have gw : wrap64 (((j + 1 : Nat) : Int) - 1) = (j : Int) := by unfold wrap64; omega
    have g4 : (0 : Int) ≤ (j : Int) := by omega
    have g5 : (j : Int) < (x.length : Int) := by omega
    have gc : wrap64 ((c : Int) + 1) = ((c + 1 : Nat) : Int) := wrap_nat c (c + 1) (by omega) (by omega)
    have gj : wrap64 (((j + 1 : Nat) : Int) + 1) = ((j + 1 + 1 : Nat) : Int) := wrap_nat (j + 1) (j + 2) (by omega) (by omega)
    simp only [impl_overs.l0, gw, gj, gc, g1, g2, g4, g5, if_true]
    refine Ev.ite (fun e => ?_) (fun e => ?_)
    · refine Ev.eq (ih (j + 1) c (by omega) (by omega)) ?_
      rw [chg, if_pos e.symm, Nat.zero_add]
    · refine Ev.eq (ih (j + 1) (c + 1) (by omega) (by omega)) ?_
      rw [chg, if_neg (fun h => e h.symm), ← Nat.add_assoc]
theorem overs_ev (x : List Int) (n : Nat) (hx : x.length = n + 1) (hn : n ≤ 1000000) : Ev (fun k => impl_overs.f k x) ((chg x 0 n : Nat) : Int) := by
  unfold impl_overs.f
  exact Ev.eq (overs_l0 x n hx hn n 0 0 (by omega) (by omega)) (by rw [Nat.zero_add])
end Go.Proofs.Ytjppgokdocjljaa.Q
