/- Orders: lists of different numbers below their length. No program, no memory. -/
import Derived.Test.YtojbmihkdlkkcaaQ0
namespace Go.Proofs.Ytojbmihkdlkkcaa.Q
open Go.RowKit Go.Proofs.Ytojbmihkdlkkcaa.B Go.Proofs.YtojbmihkdlkkcaaW.PrintWords Go.Proofs.YtojbmihkdlkkcaaW.PrintLast Go.Proofs.YtojbmihkdlkkcaaW.PrintMore
set_option linter.unusedVariables false
set_option linter.unusedSimpArgs false
def orderAt (p : List Int) (i : Nat) : Bool := inB (rd p i) 0 (wrap64 ((p.length : Int) - 1)) && !(decide (rd p i ∈ p.take i))
def orderB (p : List Int) : Bool := inB (p.length : Int) 1 8 && (List.range' 0 p.length).all (orderAt p)
theorem orderB_iff (p : List Int) : orderB p = true ↔ (1 ≤ p.length ∧ p.length ≤ 8) ∧ (∀ i, (h : i < p.length) → 0 ≤ p[i] ∧ p[i] < p.length ∧ ¬ p[i] ∈ p.take i) := by
  unfold orderB
  rw [Bool.and_eq_true]
  constructor
  · rintro ⟨h1, h2⟩
    have h1' : 1 ≤ p.length ∧ p.length ≤ 8 := by unfold inB at h1; simp at h1; omega
    refine ⟨h1', fun i hi => ?_⟩
    have := List.all_eq_true.1 h2 i (by simp [hi])
    have e : wrap64 ((p.length : Int) - 1) = (p.length : Int) - 1 := wrap_in (by omega) (by omega)
    unfold orderAt inB at this
    rw [e, rd_nat p i hi] at this
    simp at this
    exact ⟨by omega, by omega, this.2⟩
  · rintro ⟨h1, h2⟩
    refine ⟨by unfold inB; simp; omega, List.all_eq_true.2 fun i hi => ?_⟩
    have hi' : i < p.length := by simpa using hi
    obtain ⟨a, b, c⟩ := h2 i hi'
    have e : wrap64 ((p.length : Int) - 1) = (p.length : Int) - 1 := wrap_in (by omega) (by omega)
    unfold orderAt inB
    rw [e, rd_nat p i hi']
    simp
    exact ⟨by omega, c⟩
theorem order_mem {p : List Int} (h : orderB p = true) {x : Int} (hx : x ∈ p) : 0 ≤ x ∧ x < p.length := by
  obtain ⟨i, hi, rfl⟩ := List.getElem_of_mem hx
  have := ((orderB_iff p).1 h).2 i hi
  exact ⟨this.1, this.2.1⟩
end Go.Proofs.Ytojbmihkdlkkcaa.Q
