/- The pattern of a list at places is worked out so. No program, no memory. -/
import Derived.Test.YthpdhoplddlieaaB22
import Derived.Test.YthpdhoplddlieaaQpat
namespace Go.Proofs.Ythpdhoplddlieaa.Q
open Go.RowKit Go.Proofs.Ythpdhoplddlieaa.B Go.Proofs.YthpdhoplddlieaaW.PrintWords Go.Proofs.YthpdhoplddlieaaW.PrintLast Go.Proofs.YthpdhoplddlieaaW.PrintMore
set_option linter.unusedVariables false
set_option linter.unusedSimpArgs false
theorem patternI_l1 (p l : List Int) (hn : l.length ≤ 1048576) (hin : ∀ x ∈ l, 0 ≤ x ∧ x < p.length) (acc : List Int) (x : Nat) (hx : x < l.length) (r : List Int) (hacc : acc.length < 17592186044416)
    (cont : Ev (fun k => impl_pattern.l0 k p l (acc ++ [lessN p l l[x]]) l (l.length : Int) ((x + 1 : Nat) : Int)) r) :
    Ev (fun k => impl_pattern.l1 k p l acc l[x] 0 l (l.length : Int) (x : Int) l (l.length : Int) ((0 : Nat) : Int)) r := by
  have hx0 := hin l[x] (List.getElem_mem hx)
  have key := Ev.inv (σ := Int) (L := fun k j s => impl_pattern.l1 k p l acc l[x] s l (l.length : Int) (x : Int) l (l.length : Int) (j : Int)) (r := r) (n := l.length)
    (Inv := fun j s => s = (((l.take j).filter fun j => decide (rd p j < rd p l[x])).length : Int))
    (fun s hs => by
      subst hs
      refine Ev.succ ?_
      have g1 : ¬ (l.length : Int) < (l.length : Int) := by omega
      simp only [impl_pattern.l1, g1, if_false, hacc, if_true, List.take_length, wrap_nat x l.length hx (by omega)]
      exact cont)
    (fun j s hj hs ih => by
      subst hs
      refine Ev.succ ?_
      have h1 : (j : Int) < (l.length : Int) := by omega
      have h0 : (0 : Int) ≤ (j : Int) := by omega
      have hj0 := hin l[j] (List.getElem_mem hj)
      simp only [impl_pattern.l1, h1, h0, if_true, rd_nat l j hj, hj0.1, hj0.2, hx0.1, hx0.2, wrap_nat j l.length hj (by omega)]
      have hl : ((l.take j).filter fun j => decide (rd p j < rd p l[x])).length ≤ j := Nat.le_trans (List.length_filter_le _ _) (by rw [List.length_take]; omega)
      refine Ev.ite (fun h => ?_) (fun h => ?_)
      · have : wrap64 ((((l.take j).filter fun j => decide (rd p j < rd p l[x])).length : Int) + 1) = (((l.take (j + 1)).filter fun j => decide (rd p j < rd p l[x])).length : Int) := by
          rw [take_snoc l j hj, List.filter_append, List.filter_cons]
          simp only [h, decide_true, if_true, List.filter_nil, List.length_append, List.length_cons, List.length_nil]
          unfold wrap64; omega
        rw [this]; exact ih _ rfl
      · refine ih _ ?_
        rw [take_snoc l j hj, List.filter_append, List.filter_cons]
        simp [h])
  exact key 0 0 (Nat.zero_le _) (by simp)
theorem patternI_ev (p l : List Int) (hn : l.length ≤ 1048576) (hin : ∀ x ∈ l, 0 ≤ x ∧ x < p.length) : Ev (fun k => impl_pattern.f k p l) (patL p l) := by
  have key := Ev.inv (σ := List Int) (L := fun k j s => impl_pattern.l0 k p l s l (l.length : Int) (j : Int)) (r := patL p l) (n := l.length)
    (Inv := fun j s => s = (patL p l).take j)
    (fun s hs => by
      subst hs
      refine Ev.succ (Ev.ret fun k => ?_)
      rw [impl_pattern.l0, if_neg (by omega), List.take_of_length_le (by simp [patL])])
    (fun j s hj hs ih => by
      subst hs
      refine Ev.succ ?_
      have h1 : (j : Int) < (l.length : Int) := by omega
      have h0 : (0 : Int) ≤ (j : Int) := by omega
      simp only [impl_pattern.l0, h1, h0, if_true, rd_nat l j hj]
      refine patternI_l1 p l hn hin _ j hj _ (by rw [List.length_take]; simp [patL]; omega) (ih _ ?_)
      have hj' : j < (patL p l).length := by simp [patL]; exact hj
      rw [take_snoc _ j hj']; simp [patL])
  exact key 0 [] (Nat.zero_le _) rfl
end Go.Proofs.Ythpdhoplddlieaa.Q
