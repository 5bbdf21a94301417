/- The program tells increasing lists. No program, no memory. -/
import Derived.Test.YtjppgokdocjljaaB11
import Derived.Test.YtjppgokdocjljaaQrising
import Derived.Test.YtjppgokdocjljaaQbetween
namespace Go.Proofs.Ytjppgokdocjljaa.Q
open Go.RowKit Go.Proofs.Ytjppgokdocjljaa.B Go.Proofs.YtjppgokdocjljaaW.PrintWords Go.Proofs.YtjppgokdocjljaaW.PrintLast Go.Proofs.YtjppgokdocjljaaW.PrintMore
set_option linter.unusedVariables false
set_option linter.unusedSimpArgs false
theorem isRising_ev (l : List Int) (b : Int) (hn : l.length ≤ 1048576) : Ev (fun k => impl_isRising.f k l b) (risingB l b) := by
  have key := Ev.upto (L := fun k j (_ : Unit) => impl_isRising.l0 k l b l (l.length : Int) (j : Int)) (R := fun j _ => (List.range' j (l.length - j)).all (riseAt l b)) (n := l.length)
    (fun _ => by
      refine Ev.succ (Ev.ret fun k => ?_)
      rw [impl_isRising.l0, if_neg (by omega), Nat.sub_self]; rfl)
    (fun j _ hj ih => by
      refine Ev.succ ?_
      have h1 : (j : Int) < (l.length : Int) := by omega
      have h0 : (0 : Int) ≤ (j : Int) := by omega
      have e : l.length - j = (l.length - (j + 1)) + 1 := by omega
      simp only [impl_isRising.l0, h1, h0, if_true, btw_f, Option.bind_some, wrap_nat j l.length hj (by omega)]
      rw [e, List.range'_succ, List.all_cons, riseAt]
      refine Ev.iteb (fun h => ?_) (fun h => ?_)
      · rw [h, Bool.true_and]
        refine Ev.ite (fun hp => ?_) (fun hp => ?_)
        · have gw : wrap64 ((j : Int) - 1) = (j : Int) - 1 := wrap_in (by omega) (by omega)
          have g2 : (0 : Int) ≤ (j : Int) - 1 := by omega
          have g3 : (j : Int) - 1 < (l.length : Int) := by omega
          have hj0 : decide (j = 0) = false := by simp; omega
          simp only [gw, g2, g3, if_true]
          rw [hj0, Bool.false_or]
          refine Ev.ite (fun h => ?_) (fun h => ?_)
          · have : decide (rd l ((j : Int) - 1) < rd l j) = false := by simp; omega
            rw [this]; exact Ev.now _
          · have : decide (rd l ((j : Int) - 1) < rd l j) = true := by simp; omega
            rw [this]; exact ih ()
        · have hj0 : decide (j = 0) = true := by simp; omega
          rw [hj0, Bool.true_or]; exact ih ()
      · rw [h]; exact Ev.now _)
  exact key 0 () (Nat.zero_le _)
end Go.Proofs.Ytjppgokdocjljaa.Q
