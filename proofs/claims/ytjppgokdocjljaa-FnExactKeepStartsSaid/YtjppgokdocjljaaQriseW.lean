/- What an increasing list of numbers below one tells. No program, no memory. -/
import Derived.Test.YtjppgokdocjljaaQrising
import Derived.Test.YtjppgokdocjljaaQl1In
namespace Go.Proofs.Ytjppgokdocjljaa.Q
open Go.RowKit Go.Proofs.Ytjppgokdocjljaa.B Go.Proofs.YtjppgokdocjljaaW.PrintWords Go.Proofs.YtjppgokdocjljaaW.PrintLast Go.Proofs.YtjppgokdocjljaaW.PrintMore
set_option linter.unusedVariables false
set_option linter.unusedSimpArgs false
theorem rising_in {l : List Int} {n : Nat} (h : risingB l (n : Int) = true) (hn : 1 ≤ n) (hn8 : n ≤ 1000) (i : Nat) (hi : i < l.length) : 0 ≤ rd l (i : Int) ∧ rd l (i : Int) < n := by
  have h1 := (List.all_eq_true.1 h) i (by simp [hi])
  unfold riseAt at h1
  rw [Bool.and_eq_true] at h1
  have h2 := (inB_iff _ _ _).1 h1.1
  rw [wrap_in (by omega) (by omega)] at h2
  omega
theorem rising_lt {l : List Int} {n : Nat} (h : risingB l (n : Int) = true) (i : Nat) (hi : i + 1 < l.length) : rd l (i : Int) < rd l ((i + 1 : Nat) : Int) := by
  have h1 := (List.all_eq_true.1 h) (i + 1) (by simp [hi])
  unfold riseAt at h1
  rw [Bool.and_eq_true] at h1
  have h2 := h1.2
  have e : ((i + 1 : Nat) : Int) - 1 = (i : Int) := by omega
  rw [e] at h2
  simpa using h2
theorem mem_rd {l : List Int} {x : Int} (h : x ∈ l) : ∃ i, i < l.length ∧ rd l (i : Int) = x := by
  obtain ⟨i, hi, e⟩ := List.mem_iff_getElem.1 h
  exact ⟨i, hi, by rw [rd_nat l i hi]; exact e⟩
theorem rd_mem {l : List Int} (i : Nat) (hi : i < l.length) : rd l (i : Int) ∈ l := by
  rw [rd_nat l i hi]; exact List.getElem_mem hi
end Go.Proofs.Ytjppgokdocjljaa.Q
