/- A level of exchanges on a list. No program, no memory. -/
import Derived.Test.YtojbmihkdlkkcaaQ0
namespace Go.Proofs.Ytojbmihkdlkkcaa.Q
open Go.RowKit Go.Proofs.Ytojbmihkdlkkcaa.B Go.Proofs.YtojbmihkdlkkcaaW.PrintWords Go.Proofs.YtojbmihkdlkkcaaW.PrintLast Go.Proofs.YtojbmihkdlkkcaaW.PrintMore
set_option linter.unusedVariables false
set_option linter.unusedSimpArgs false
/-- the numbers at a place and the next one exchanged -/
def swp (p : List Int) (r : Int) : List Int := (p.set r.toNat (rd p (r + 1))).set (r + 1).toNat (rd p r)
def topL (p : List Int) (l : List Int) : List Int := l.foldl swp p
theorem swp_length (p : List Int) (r : Int) : (swp p r).length = p.length := by simp [swp]
theorem topL_length (l : List Int) : ∀ p, (topL p l).length = p.length := by
  induction l with
  | nil => intro p; rfl
  | cons r l ih => intro p; show (topL (swp p r) l).length = _; rw [ih, swp_length]
def okRungs (n : Nat) (l : List Int) : Prop := ∀ r ∈ l, 0 ≤ r ∧ r + 1 < (n : Int)
theorem topL_take (p l : List Int) (j : Nat) (h : j < l.length) : topL p (l.take (j + 1)) = swp (topL p (l.take j)) l[j] := by
  rw [take_snoc l j h]; unfold topL; rw [List.foldl_append]; rfl
end Go.Proofs.Ytojbmihkdlkkcaa.Q
