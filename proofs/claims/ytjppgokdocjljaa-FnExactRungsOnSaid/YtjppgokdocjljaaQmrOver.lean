/- The reference's counts of rungs on the ways. No program, no memory. -/
import Derived.Test.YtjppgokdocjljaaB7
import Derived.Test.YtjppgokdocjljaaQchg
import Derived.Test.YtjppgokdocjljaaQlaDown
namespace Go.Proofs.Ytjppgokdocjljaa.Q
open Go.RowKit Go.Proofs.Ytjppgokdocjljaa.B Go.Proofs.YtjppgokdocjljaaW.PrintWords Go.Proofs.YtjppgokdocjljaaW.PrintLast Go.Proofs.YtjppgokdocjljaaW.PrintMore
set_option linter.unusedVariables false
set_option linter.unusedSimpArgs false
def rungsOn (n : Nat) (l : List Int) : List Int := (List.range n).map fun (i : Nat) => ((chg (downs (i : Int) l) 0 l.length : Nat) : Int)
theorem rungsOn_length (n : Nat) (l : List Int) : (rungsOn n l).length = n := by simp [rungsOn]
theorem rungsOn_take (n j : Nat) (l : List Int) (h : j < n) : (rungsOn n l).take (j + 1) = (rungsOn n l).take j ++ [((chg (downs (j : Int) l) 0 l.length : Nat) : Int)] := by
  have hj : j < (rungsOn n l).length := by rw [rungsOn_length]; exact h
  rw [take_snoc _ j hj]; simp [rungsOn]
theorem mrOver_l1 (n : Nat) (l : List Int) (hl : l.length ≤ 1000000) (i : Nat) (acc : List Int) (ha : acc.length ≤ 1000000) (x : List Int) (hx : x.length = l.length + 1) (R : List Int) (d : Nat) : ∀ (j c : Nat), j + d = l.length → c ≤ j →
    Ev (fun k => spec_mrOver.l0 k (acc ++ [((c + chg x j d : Nat) : Int)]) (wrap64 ((i : Int) + 1)) (n : Int) l) R → Ev (fun k => spec_mrOver.l1 k acc (i : Int) x (c : Int) (l.length : Int) (j : Int) (n : Int) l) R := by
  induction d with
  | zero =>
    intro j c hj _ h
    refine Ev.succ ?_
    have g1 : ¬ (j : Int) < (l.length : Int) := by omega
    have g2 : acc.length < 17592186044416 := by omega
    simp only [spec_mrOver.l1, g1, g2, if_false, if_true]
    simpa [chg] using h
  | succ d ih =>
    intro j c hj hc h
    refine Ev.succ ?_
    have g1 : (j : Int) < (l.length : Int) := by omega
    have g2 : (0 : Int) ≤ (j : Int) := by omega
    have g3 : (j : Int) < (x.length : Int) := by omega
    have g4 : (0 : Int) ≤ ((j + 1 : Nat) : Int) := by omega
    have g5 : ((j + 1 : Nat) : Int) < (x.length : Int) := by omega
    have gc : wrap64 ((c : Int) + 1) = ((c + 1 : Nat) : Int) := wrap_nat c (c + 1) (by omega) (by omega)
    simp only [spec_mrOver.l1, wrap_nat j l.length (by omega) (by omega), g1, g2, g3, g4, g5, gc, if_true]
    refine Ev.ite (fun e => ?_) (fun e => ?_)
    · refine ih (j + 1) c (by omega) (by omega) ?_
      rw [chg, if_pos e, Nat.zero_add] at h
      exact h
    · refine ih (j + 1) (c + 1) (by omega) (by omega) ?_
      rw [chg, if_neg e, ← Nat.add_assoc] at h
      exact h
theorem mrOver_ev (n : Nat) (l : List Int) (hn : n ≤ 8) (hl : l.length ≤ 1000000) : Ev (fun k => spec_mrOver.f k (n : Int) l) (rungsOn n l) := by
  have key := Ev.inv (σ := List Int) (L := fun k j s => spec_mrOver.l0 k s (j : Int) (n : Int) l) (r := rungsOn n l) (n := n)
    (Inv := fun j s => s = (rungsOn n l).take j)
    (fun s hs => by
      subst hs
      refine Ev.succ (Ev.ret fun k => ?_)
      rw [spec_mrOver.l0, if_neg (by omega), List.take_of_length_le (by rw [rungsOn_length]; omega)])
    (fun j s hj hs ih => by
      subst hs
      refine Ev.succ ?_
      have h1 : (j : Int) < (n : Int) := by omega
      simp only [spec_mrOver.l0, h1, if_true]
      refine Ev.bind (laDown_ev l (j : Int) hl) ?_
      refine mrOver_l1 n l hl j _ (by rw [List.length_take, rungsOn_length]; omega) _ (downs_length l _) _ l.length 0 0 (by omega) (by omega) ?_
      rw [wrap_nat j n hj (by omega), Nat.zero_add]
      exact ih _ (rungsOn_take n j l hj).symm)
  exact key 0 [] (Nat.zero_le _) rfl
end Go.Proofs.Ytjppgokdocjljaa.Q
