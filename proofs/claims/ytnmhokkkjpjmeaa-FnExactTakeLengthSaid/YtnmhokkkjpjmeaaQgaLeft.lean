/- The reference's rungs of a set. No program, no memory. -/
import Derived.Test.YtnmhokkkjpjmeaaB1
import Derived.Test.YtnmhokkkjpjmeaaQshr
namespace Go.Proofs.Ytnmhokkkjpjmeaa.Q
open Go.RowKit Go.Proofs.Ytnmhokkkjpjmeaa.B Go.Proofs.YtnmhokkkjpjmeaaW.PrintWords Go.Proofs.YtnmhokkkjpjmeaaW.PrintLast Go.Proofs.YtnmhokkkjpjmeaaW.PrintMore
set_option linter.unusedVariables false
set_option linter.unusedSimpArgs false
theorem gaLeft_ev (a : Int) (l : List Int) (hl : l.length ≤ 60) (s : Nat) : Ev (fun k => spec_gaLeft.f k a l (s : Int)) (leftR l s) := by
  unfold spec_gaLeft.f
  have key := Ev.inv (σ := List Int) (L := fun k j acc => spec_gaLeft.l0 k (s : Int) acc l (l.length : Int) (j : Int)) (r := leftR l s) (n := l.length)
    (Inv := fun j acc => acc ++ leftR (l.drop j) (s / 2 ^ j) = leftR l s ∧ acc.length ≤ j)
    (fun acc h => by
      refine Ev.succ (Ev.ret fun k => ?_)
      have e := h.1
      rw [List.drop_length, leftR, List.append_nil] at e
      rw [spec_gaLeft.l0, if_neg (by omega), e])
    (fun j acc hj h ih => by
      refine Ev.succ ?_
      have h1 : (j : Int) < (l.length : Int) := by omega
      have h0 : (0 : Int) ≤ (j : Int) := by omega
      have h3 : acc.length < 17592186044416 := by have := h.2; omega
      have e := h.1
      rw [leftR_drop l s j hj] at e
      simp only [spec_gaLeft.l0, h1, h0, h3, if_true, rd_nat l j hj, shr_bit s j (by omega), wrap_nat j l.length hj (by omega)]
      refine Ev.ite (fun c => ?_) (fun c => ?_)
      · rw [if_pos (by omega)] at e
        exact ih _ ⟨by rw [List.append_assoc]; exact e, by rw [List.length_append]; have := h.2; simp; omega⟩
      · rw [if_neg (by omega)] at e
        exact ih _ ⟨e, by have := h.2; omega⟩)
  exact key 0 [] (Nat.zero_le _) ⟨by simp, Nat.le_refl _⟩
end Go.Proofs.Ytnmhokkkjpjmeaa.Q
