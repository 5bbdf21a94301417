/- The program's ways. No program, no memory. -/
import Derived.Test.YtnmhokkkjpjmeaaB1
import Derived.Test.YtnmhokkkjpjmeaaQdown
import Derived.Test.YtnmhokkkjpjmeaaQover
namespace Go.Proofs.Ytnmhokkkjpjmeaa.Q
open Go.RowKit Go.Proofs.Ytnmhokkkjpjmeaa.B Go.Proofs.YtnmhokkkjpjmeaaW.PrintWords Go.Proofs.YtnmhokkkjpjmeaaW.PrintLast Go.Proofs.YtnmhokkkjpjmeaaW.PrintMore
set_option linter.unusedVariables false
set_option linter.unusedSimpArgs false
theorem way_ev (a : Int) (l : List Int) (w : Int) (hn : l.length ≤ 1000000) : Ev (fun k => impl_way.f k a l w) (downs w l) := by
  have key := Ev.inv (σ := Int × List Int) (L := fun k j s => impl_way.l0 k s.1 s.2 l (l.length : Int) (j : Int)) (r := downs w l) (n := l.length)
    (Inv := fun j s => s.1 = endOf w (l.take j) ∧ s.2 = downs w (l.take j))
    (fun s hs => by
      obtain ⟨s1, s2⟩ := s; obtain ⟨rfl, rfl⟩ := hs
      refine Ev.succ (Ev.ret fun k => ?_)
      rw [impl_way.l0, if_neg (by omega), List.take_length])
    (fun j s hj hs ih => by
      obtain ⟨s1, s2⟩ := s; obtain ⟨rfl, rfl⟩ := hs
      refine Ev.succ ?_
      have h1 : (j : Int) < (l.length : Int) := by omega
      have h0 : (0 : Int) ≤ (j : Int) := by omega
      have h2 : (downs w (l.take j)).length < 17592186044416 := by rw [downs_length, List.length_take]; omega
      simp only [impl_way.l0, h1, h0, h2, if_true, rd_nat l j hj, wrap_nat j _ hj (by omega), over_f, Option.bind_some]
      have e1 : ovr (endOf w (l.take j)) l[j] = endOf w (l.take (j + 1)) := by rw [take_snoc l j hj, endOf_snoc]
      have e2 : downs w (l.take j) ++ [ovr (endOf w (l.take j)) l[j]] = downs w (l.take (j + 1)) := by rw [take_snoc l j hj, downs_snoc]
      exact ih (_, _) ⟨e1, e2⟩)
  exact key 0 (w, [w]) (Nat.zero_le _) ⟨rfl, rfl⟩
end Go.Proofs.Ytnmhokkkjpjmeaa.Q
