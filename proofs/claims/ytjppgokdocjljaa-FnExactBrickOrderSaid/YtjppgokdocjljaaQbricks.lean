/- The program's bricks. No program, no memory. -/
import Derived.Test.YtjppgokdocjljaaB10
import Derived.Test.YtjppgokdocjljaaQbrick
import Derived.Test.YtjppgokdocjljaaQlvBricks
import Derived.Test.YtjppgokdocjljaaQlaIf
namespace Go.Proofs.Ytjppgokdocjljaa.Q
open Go.RowKit Go.Proofs.Ytjppgokdocjljaa.B Go.Proofs.YtjppgokdocjljaaW.PrintWords Go.Proofs.YtjppgokdocjljaaW.PrintLast Go.Proofs.YtjppgokdocjljaaW.PrintMore
set_option linter.unusedVariables false
set_option linter.unusedSimpArgs false
theorem brick_l0 (n : Nat) (hn1 : 2 ≤ n) (hn : n ≤ 8) (d : Nat) : ∀ (q : Nat) (acc : List Int), acc.length + d ≤ 1000 → (n - 1 - q + 1) / 2 = d → q ≤ 10 →
    Ev (fun k => impl_brick.l0 k (n : Int) acc (q : Int)) (acc ++ stp d q) := by
  have hw1 : wrap64 ((n : Int) - 1) = ((n - 1 : Nat) : Int) := by unfold wrap64; omega
  induction d with
  | zero =>
    intro q acc _ hd hq
    refine Ev.succ ?_
    have g1 : ¬ (q : Int) < ((n - 1 : Nat) : Int) := by omega
    simp only [impl_brick.l0, hw1, g1, if_false]
    exact Ev.eq (Ev.now _) (by simp [stp])
  | succ d ih =>
    intro q acc hl hd hq
    refine Ev.succ ?_
    have g1 : (q : Int) < ((n - 1 : Nat) : Int) := by omega
    have g2 : acc.length < 17592186044416 := by omega
    have g3 : wrap64 ((q : Int) + 2) = ((q + 2 : Nat) : Int) := by unfold wrap64; omega
    simp only [impl_brick.l0, hw1, g1, g2, g3, if_true]
    exact Ev.eq (ih (q + 2) (acc ++ [(q : Int)]) (by simp; omega) (by omega) (by omega)) (by simp [stp])
theorem brick_ev (n j : Nat) (hn1 : 2 ≤ n) (hn : n ≤ 8) : Ev (fun k => impl_brick.f k (n : Int) (j : Int)) (brickL n j) := by
  unfold impl_brick.f
  have g2 : Int.tmod (j : Int) 2 = ((j % 2 : Nat) : Int) := by rw [Int.tmod_eq_emod_of_nonneg (by omega)]; omega
  rw [g2]
  exact brick_l0 n hn1 hn _ (j % 2) [] (by simp; omega) rfl (by omega)
theorem bricks_ev (n m : Nat) (hn1 : 2 ≤ n) (hn : n ≤ 8) (hm : m ≤ 100) : Ev (fun k => impl_bricks.f k (n : Int) (m : Int)) (ifLadder n (bricksL n m)) := by
  have key := Ev.inv (σ := List Int) (L := fun k j s => impl_bricks.l0 k (n : Int) (m : Int) (j : Int) (n : Int) s) (r := ifLadder n (bricksL n m)) (n := m)
    (Inv := fun j s => s = bricksL n j)
    (fun s hs => by
      subst hs
      refine Ev.succ ?_
      have g1 : ¬ (m : Int) < (m : Int) := by omega
      simp only [impl_bricks.l0, g1, if_false, checked_f, Option.bind_some]
      exact Ev.now _)
    (fun j s hj hs ih => by
      subst hs
      refine Ev.succ ?_
      have g1 : (j : Int) < (m : Int) := by omega
      have hl := bricksL_length n j hn
      have hb := brickL_length n j hn
      have g2 : (bricksL n j).length + (brickL n j).length < 17592186044416 := by omega
      simp only [impl_bricks.l0, g1, if_true, wrap_nat j m hj (by omega)]
      refine Ev.bind (brick_ev n j hn1 hn) ?_
      simp only [g2, if_true]
      exact ih _ (bricksL_succ n j).symm)
  exact key 0 [] (Nat.zero_le _) rfl
end Go.Proofs.Ytjppgokdocjljaa.Q
