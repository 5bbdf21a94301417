/- The reference takes a start out. No program, no memory. -/
import Derived.Test.YtjppgokdocjljaaB11
import Derived.Test.YtjppgokdocjljaaQtake
import Derived.Test.YtjppgokdocjljaaQlaOver
namespace Go.Proofs.Ytjppgokdocjljaa.Q
open Go.RowKit Go.Proofs.Ytjppgokdocjljaa.B Go.Proofs.YtjppgokdocjljaaW.PrintWords Go.Proofs.YtjppgokdocjljaaW.PrintLast Go.Proofs.YtjppgokdocjljaaW.PrintMore
set_option linter.unusedVariables false
set_option linter.unusedSimpArgs false
theorem mrTake_ev (l : List Int) (s : Int) (hl : l.length ≤ 1000000) : Ev (fun k => spec_mrTake.f k l s) (tk s l) := by
  have key := Ev.inv (σ := Int × List Int) (L := fun k j q => spec_mrTake.l0 k q.1 q.2 l (l.length : Int) (j : Int)) (r := tk s l) (n := l.length)
    (Inv := fun j q => q.2 ++ tk q.1 (l.drop j) = tk s l ∧ q.2.length ≤ j)
    (fun q hq => by
      obtain ⟨q1, q2⟩ := q
      obtain ⟨hq, _⟩ := hq
      refine Ev.succ (Ev.ret fun k => ?_)
      rw [spec_mrTake.l0, if_neg (by omega), ← hq, List.drop_length]; simp [tk])
    (fun j q hj hq ih => by
      obtain ⟨q1, q2⟩ := q
      obtain ⟨hq, hlen⟩ := hq
      refine Ev.succ ?_
      have g1 : (j : Int) < (l.length : Int) := by omega
      have g0 : (0 : Int) ≤ (j : Int) := by omega
      have g2 : q2.length < 17592186044416 := by simp only at hlen; omega
      rw [List.drop_eq_getElem_cons hj, tk] at hq
      simp only at hq hlen
      simp only [spec_mrTake.l0, g1, g0, g2, if_true, rd_nat l j hj, laOver_f, Option.bind_some, wrap_nat j _ hj (by omega)]
      refine Ev.ite (fun h => ?_) (fun h => ?_)
      · rw [if_pos h] at hq
        simp only [h]
        refine Ev.ite (fun h3 => ?_) (fun h3 => ?_)
        · rw [if_pos h3] at hq
          exact ih (q1, q2 ++ [wrap64 (l[j] - 1)]) ⟨by simpa using hq, by simp; omega⟩
        · rw [if_neg h3] at hq
          exact ih (q1, q2 ++ [l[j]]) ⟨by simpa using hq, by simp; omega⟩
      · rw [if_neg h] at hq
        exact ih (ovr q1 l[j], q2) ⟨hq, by simp only; omega⟩)
  exact key 0 (s, []) (Nat.zero_le _) ⟨by simp, by simp⟩
end Go.Proofs.Ytjppgokdocjljaa.Q
