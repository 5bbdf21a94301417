/- The reference's pairs that stand the wrong way round. No program, no memory. -/
import Derived.Test.YtjppgokdocjljaaB5
import Derived.Test.YtjppgokdocjljaaQinv
namespace Go.Proofs.Ytjppgokdocjljaa.Q
open Go.RowKit Go.Proofs.Ytjppgokdocjljaa.B Go.Proofs.YtjppgokdocjljaaW.PrintWords Go.Proofs.YtjppgokdocjljaaW.PrintLast Go.Proofs.YtjppgokdocjljaaW.PrintMore
set_option linter.unusedVariables false
set_option linter.unusedSimpArgs false
theorem lsInv_l1 (p : List Int) (n : Nat) (hn : p.length = n) (hn8 : n ≤ 1000) (i : Nat) (hi : i < n) (R : List (List Int)) (d : Nat) : ∀ (j : Nat) (acc : List (List Int)), j + d = n → acc.length + d ≤ 10000000 →
    Ev (fun k => spec_lsInversions.l0 k p (acc ++ irow p i j d) (n : Int) ((i + 1 : Nat) : Int)) R → Ev (fun k => spec_lsInversions.l1 k p acc (i : Int) (j : Int) (n : Int) (i : Int)) R := by
  subst hn
  induction d with
  | zero =>
    intro j acc hj _ h
    refine Ev.succ ?_
    have g1 : ¬ (j : Int) < (p.length : Int) := by omega
    simp only [spec_lsInversions.l1, g1, if_false, wrap_nat i p.length hi (by omega)]
    simpa [irow] using h
  | succ d ih =>
    intro j acc hj hl h
    refine Ev.succ ?_
    have g1 : (j : Int) < (p.length : Int) := by omega
    have g2 : (0 : Int) ≤ (i : Int) := by omega
    have g3 : (i : Int) < (p.length : Int) := by omega
    have g4 : (0 : Int) ≤ (j : Int) := by omega
    have g5 : acc.length < 5864062014805 := by omega
    simp only [spec_lsInversions.l1, g1, g2, g3, g4, g5, if_true, wrap_nat j p.length (by omega) (by omega)]
    refine Ev.ite (fun c => ?_) (fun c => ?_)
    · refine ih (j + 1) _ (by omega) (by simp; omega) ?_
      rw [irow, if_pos c] at h
      simpa using h
    · refine ih (j + 1) _ (by omega) (by omega) ?_
      rw [irow, if_neg c] at h
      simpa using h
theorem lsInv_l0 (p : List Int) (n : Nat) (hn : p.length = n) (hn8 : n ≤ 1000) (d : Nat) : ∀ (i : Nat) (acc : List (List Int)), i + d = n → acc.length + d * 1000 ≤ 1000000 →
    Ev (fun k => spec_lsInversions.l0 k p acc (n : Int) (i : Int)) (acc ++ ips p i d) := by
  induction d with
  | zero =>
    intro i acc hi _
    refine Ev.succ ?_
    have g1 : ¬ (i : Int) < (n : Int) := by omega
    simp only [spec_lsInversions.l0, g1, if_false]
    simpa [ips] using Ev.now _
  | succ d ih =>
    intro i acc hi hl
    refine Ev.succ ?_
    have g1 : (i : Int) < (n : Int) := by omega
    simp only [spec_lsInversions.l0, g1, if_true, wrap_nat i n (by omega) (by omega)]
    refine lsInv_l1 p n hn hn8 i (by omega) _ d (i + 1) acc (by omega) (by omega) ?_
    have hr := irow_length p i d (i + 1)
    refine Ev.eq (ih (i + 1) _ (by omega) (by rw [List.length_append]; omega)) ?_
    rw [ips, List.append_assoc]
theorem lsInversions_ev (p : List Int) (hn : p.length ≤ 1000) : Ev (fun k => spec_lsInversions.f k p) (ips p 0 p.length) := by
  unfold spec_lsInversions.f
  exact Ev.eq (lsInv_l0 p p.length rfl hn p.length 0 [] (by omega) (by simp; omega)) (by simp)
end Go.Proofs.Ytjppgokdocjljaa.Q
