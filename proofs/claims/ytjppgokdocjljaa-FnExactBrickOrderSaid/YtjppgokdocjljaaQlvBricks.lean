/- The reference's bricks. No program, no memory. -/
import Derived.Test.YtjppgokdocjljaaB10
import Derived.Test.YtjppgokdocjljaaQbrick
namespace Go.Proofs.Ytjppgokdocjljaa.Q
open Go.RowKit Go.Proofs.Ytjppgokdocjljaa.B Go.Proofs.YtjppgokdocjljaaW.PrintWords Go.Proofs.YtjppgokdocjljaaW.PrintLast Go.Proofs.YtjppgokdocjljaaW.PrintMore
set_option linter.unusedVariables false
set_option linter.unusedSimpArgs false
theorem lvBricks_l1 (n m : Nat) (hn1 : 2 ≤ n) (hn : n ≤ 8) (j : Nat) (r : List Int) (d : Nat) : ∀ (q : Nat) (acc : List Int), acc.length + d ≤ 1000 → (n - 1 - q + 1) / 2 = d → q ≤ 10 →
    Ev (fun k => spec_lvBricks.l0 k (n : Int) (m : Int) (acc ++ stp d q) (wrap64 ((j : Int) + 1))) r → Ev (fun k => spec_lvBricks.l1 k (n : Int) (m : Int) acc (j : Int) (q : Int)) r := by
  have hw1 : wrap64 ((n : Int) - 1) = ((n - 1 : Nat) : Int) := by unfold wrap64; omega
  induction d with
  | zero =>
    intro q acc _ hd hq h
    refine Ev.succ ?_
    have g1 : ¬ (q : Int) < ((n - 1 : Nat) : Int) := by omega
    simp only [spec_lvBricks.l1, hw1, g1, if_false]
    simpa [stp] using h
  | succ d ih =>
    intro q acc hl hd hq h
    refine Ev.succ ?_
    have g1 : (q : Int) < ((n - 1 : Nat) : Int) := by omega
    have g2 : acc.length < 17592186044416 := by omega
    have g3 : wrap64 ((q : Int) + 2) = ((q + 2 : Nat) : Int) := by unfold wrap64; omega
    simp only [spec_lvBricks.l1, hw1, g1, g2, g3, if_true]
    refine ih (q + 2) (acc ++ [(q : Int)]) (by simp; omega) (by omega) (by omega) ?_
    simpa [stp] using h
theorem lvBricks_ev (n m : Nat) (hn1 : 2 ≤ n) (hn : n ≤ 8) (hm : m ≤ 100) : Ev (fun k => spec_lvBricks.f k (n : Int) (m : Int)) (bricksL n m) := by
  have key := Ev.inv (σ := List Int) (L := fun k j s => spec_lvBricks.l0 k (n : Int) (m : Int) s (j : Int)) (r := bricksL n m) (n := m)
    (Inv := fun j s => s = bricksL n j)
    (fun s hs => by
      subst hs
      refine Ev.succ (Ev.ret fun k => ?_)
      rw [spec_lvBricks.l0, if_neg (by omega)])
    (fun j s hj hs ih => by
      subst hs
      refine Ev.succ ?_
      have g1 : (j : Int) < (m : Int) := by omega
      have g2 : Int.tmod (j : Int) 2 = ((j % 2 : Nat) : Int) := by rw [Int.tmod_eq_emod_of_nonneg (by omega)]; omega
      have hl := bricksL_length n j hn
      simp only [spec_lvBricks.l0, g1, if_true, g2]
      refine lvBricks_l1 n m hn1 hn j _ _ (j % 2) _ (by omega) rfl (by omega) ?_
      rw [wrap_nat j m hj (by omega)]
      exact ih _ (bricksL_succ n j).symm)
  exact key 0 [] (Nat.zero_le _) rfl
end Go.Proofs.Ytjppgokdocjljaa.Q
