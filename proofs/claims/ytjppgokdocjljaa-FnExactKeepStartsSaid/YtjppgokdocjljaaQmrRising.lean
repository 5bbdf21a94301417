/- The reference tells increasing lists. No program, no memory. -/
import Derived.Test.YtjppgokdocjljaaB11
import Derived.Test.YtjppgokdocjljaaQrising
import Derived.Test.YtjppgokdocjljaaQl1All
namespace Go.Proofs.Ytjppgokdocjljaa.Q
open Go.RowKit Go.Proofs.Ytjppgokdocjljaa.B Go.Proofs.YtjppgokdocjljaaW.PrintWords Go.Proofs.YtjppgokdocjljaaW.PrintLast Go.Proofs.YtjppgokdocjljaaW.PrintMore
set_option linter.unusedVariables false
set_option linter.unusedSimpArgs false
theorem mrRising_ev (l : List Int) (b : Int) (hn : l.length ≤ 1048576) : Ev (fun k => spec_mrRising.f k l b) (risingB l b) := by
  unfold spec_mrRising.f
  refine Ev.bind (l1All_ev l 0 _ (by omega)) ?_
  have all_in : (l.all fun x => inB x 0 (wrap64 (b - 1))) = (List.range' 0 l.length).all fun i => inB (rd l i) 0 (wrap64 (b - 1)) := by
    rw [Bool.eq_iff_iff, List.all_eq_true, List.all_eq_true]
    constructor
    · intro h i hi
      have hi' : i < l.length := by simpa using hi
      rw [rd_nat l i hi']; exact h _ (List.getElem_mem hi')
    · intro h x hx
      obtain ⟨i, hi, rfl⟩ := List.getElem_of_mem hx
      have := h i (by simpa using hi)
      rwa [rd_nat l i hi] at this
  refine Ev.iteb (fun h => ?_) (fun h => ?_)
  · rw [all_in] at h
    have e0 : risingB l b = (List.range' 0 l.length).all fun i => (decide (i = 0) || decide (rd l ((i : Int) - 1) < rd l i)) := by
      unfold risingB riseAt
      rw [Bool.eq_iff_iff, List.all_eq_true, List.all_eq_true]
      have h' := List.all_eq_true.1 h
      exact ⟨fun g i hi => by have := g i hi; rw [h' i hi, Bool.true_and] at this; exact this, fun g i hi => by rw [h' i hi, Bool.true_and]; exact g i hi⟩
    rw [e0]
    by_cases hz : l.length = 0
    · have : l = [] := List.eq_nil_of_length_eq_zero hz
      subst this
      refine Ev.succ (Ev.ret fun k => ?_)
      rw [spec_mrRising.l0, if_neg (by simp)]; rfl
    · have e1 : (List.range' 0 l.length).all (fun i => (decide (i = 0) || decide (rd l ((i : Int) - 1) < rd l i))) = (List.range' 1 (l.length - 1)).all (fun i => (decide (i = 0) || decide (rd l ((i : Int) - 1) < rd l i))) := by
        have : l.length = (l.length - 1) + 1 := by omega
        rw [this, List.range'_succ, List.all_cons]
        simp
      rw [e1]
      have main : ∀ d j, 1 ≤ j → j ≤ l.length → l.length - j = d → Ev (fun k => spec_mrRising.l0 k l (j : Int)) ((List.range' j (l.length - j)).all fun i => (decide (i = 0) || decide (rd l ((i : Int) - 1) < rd l i))) := by
        intro d
        induction d with
        | zero =>
          intro j h1 h2 hd
          refine Ev.succ (Ev.ret fun k => ?_)
          rw [spec_mrRising.l0, if_neg (by omega), hd]; rfl
        | succ d ih =>
          intro j h1 h2 hd
          refine Ev.succ ?_
          have g1 : (j : Int) < (l.length : Int) := by omega
          have gw : wrap64 ((j : Int) - 1) = (j : Int) - 1 := wrap_in (by omega) (by omega)
          have g2 : (0 : Int) ≤ (j : Int) - 1 := by omega
          have g3 : (j : Int) - 1 < (l.length : Int) := by omega
          have g0 : (0 : Int) ≤ (j : Int) := by omega
          have e : l.length - j = (l.length - (j + 1)) + 1 := by omega
          simp only [spec_mrRising.l0, g1, gw, g2, g3, g0, if_true, wrap_nat j l.length (by omega) (by omega)]
          rw [e, List.range'_succ, List.all_cons]
          have hj0 : decide (j = 0) = false := by simp; omega
          rw [hj0, Bool.false_or]
          refine Ev.ite (fun h => ?_) (fun h => ?_)
          · have : decide (rd l ((j : Int) - 1) < rd l j) = false := by simp; omega
            rw [this]; exact Ev.now _
          · have : decide (rd l ((j : Int) - 1) < rd l j) = true := by simp; omega
            rw [this]; exact ih (j + 1) (by omega) (by omega) (by omega)
      exact main (l.length - 1) 1 (by omega) (by omega) rfl
  · have : risingB l b = false := by
      rw [all_in] at h
      unfold risingB
      rw [Bool.eq_false_iff] at h ⊢
      intro h2
      apply h
      rw [List.all_eq_true] at h2 ⊢
      intro i hi
      have := h2 i hi
      unfold riseAt at this
      simp at this
      exact this.1
    rw [this]; exact Ev.now _
end Go.Proofs.Ytjppgokdocjljaa.Q
