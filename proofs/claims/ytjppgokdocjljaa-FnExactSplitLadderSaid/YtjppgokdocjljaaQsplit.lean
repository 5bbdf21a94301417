/- The ladders into which a ladder falls, as plain lists. No program, no memory. -/
import Derived.Test.YtjppgokdocjljaaQmarkLS
namespace Go.Proofs.Ytjppgokdocjljaa.Q
open Go.RowKit Go.Proofs.Ytjppgokdocjljaa.B Go.Proofs.YtjppgokdocjljaaW.PrintWords Go.Proofs.YtjppgokdocjljaaW.PrintLast Go.Proofs.YtjppgokdocjljaaW.PrintMore
set_option linter.unusedVariables false
set_option linter.unusedSimpArgs false
/-- the rungs from a wire on, before another one -/
def part (l : List Int) (fr at_ : Nat) : List Int := (l.filter fun r => decide ((fr : Int) ≤ r ∧ r < (at_ : Int) - 1)).map fun r => r - (fr : Int)
def stepS (n : Nat) (l : List Int) (s : List S28 × Nat) (at_ : Nat) : List S28 × Nat :=
  if at_ < n ∧ (at_ : Int) - 1 ∈ l then s else ((if 1 < at_ - s.2 then s.1 ++ [⟨((at_ - s.2 : Nat) : Int), part l s.2 at_⟩] else s.1), at_)
def splitTo (n : Nat) (l : List Int) : Nat → List S28 × Nat
  | 0 => ([], 0)
  | j + 1 => stepS n l (splitTo n l j) (j + 1)
theorem part_length (l : List Int) (fr at_ : Nat) : (part l fr at_).length ≤ l.length := by
  unfold part; rw [List.length_map]; exact List.length_filter_le _ _
theorem splitTo_small (n : Nat) (l : List Int) (j : Nat) : (splitTo n l j).2 ≤ j ∧ (splitTo n l j).1.length ≤ j ∧ ∀ r ∈ (splitTo n l j).1, r.f1.length ≤ l.length := by
  induction j with
  | zero => exact ⟨Nat.le_refl _, Nat.le_refl _, fun r h => by simp [splitTo] at h⟩
  | succ j ih =>
    obtain ⟨h1, h2, h3⟩ := ih
    rw [splitTo, stepS]
    split
    · exact ⟨by omega, by omega, h3⟩
    · refine ⟨Nat.le_refl _, ?_, ?_⟩
      · simp only; split
        · rw [List.length_append]; simp; omega
        · omega
      · simp only; split
        · intro r hr
          rcases List.mem_append.1 hr with hr | hr
          · exact h3 r hr
          · obtain rfl := List.mem_singleton.1 hr; exact part_length _ _ _
        · exact h3
theorem part_take (l : List Int) (fr at_ j : Nat) (h : j < l.length) : part (l.take (j + 1)) fr at_ = if (fr : Int) ≤ l[j] ∧ l[j] < (at_ : Int) - 1 then part (l.take j) fr at_ ++ [l[j] - (fr : Int)] else part (l.take j) fr at_ := by
  rw [take_snoc l j h]
  unfold part
  rw [List.filter_append, List.map_append]
  split
  · rename_i c; rw [List.filter_cons_of_pos (by simpa using c)]; simp
  · rename_i c; rw [List.filter_cons_of_neg (by simpa using c)]; simp
end Go.Proofs.Ytjppgokdocjljaa.Q
