/- Plain words that the walks of this claim use: no program, no memory. -/
import Derived.Lib.Hide
import Derived.Shelf.Abstract
import Derived.WalkSpells
import Derived.Lib.SliceRun
import Derived.Test.YtjppgokdocjljaaWMore
namespace Go.Proofs.Ytjppgokdocjljaa.B
open Go.RowKit Go.Proofs.YtjppgokdocjljaaW.PrintWords Go.Proofs.YtjppgokdocjljaaW.PrintLast Go.Proofs.YtjppgokdocjljaaW.PrintMore
/-- The place of the first element from i on at which p holds, or -1. -/
def idxFrom (p : Int → Bool) : List Int → Nat → Int
  | [], _ => -1
  | x :: l, i => if p x = true then (i : Int) else idxFrom p l (i + 1)
theorem idxFrom_hit {p : Int → Bool} {l : List Int} {i j : Nat} (h : i < l.length) (hp : p l[i] = true) : idxFrom p (l.drop i) j = (j : Int) := by
  rw [List.drop_eq_getElem_cons h]; simp only [idxFrom]; rw [if_pos hp]
theorem idxFrom_next {p : Int → Bool} {l : List Int} {i j : Nat} (h : i < l.length) (hp : p l[i] = false) : idxFrom p (l.drop i) j = idxFrom p (l.drop (i + 1)) (j + 1) := by
  rw [List.drop_eq_getElem_cons h]; simp only [idxFrom]; rw [if_neg (by simp [hp])]
theorem idxFrom_any (p : Int → Bool) : ∀ (l : List Int) (j : Nat), decide (0 ≤ idxFrom p l j) = l.any p
  | [], _ => rfl
  | x :: l, j => by
    by_cases h : p x = true
    · simp [idxFrom, h]
    · simp [idxFrom, h, idxFrom_any p l (j + 1)]

def inB (a b c : Int) : Bool := decide (b ≤ a) && decide (a ≤ c)
end Go.Proofs.Ytjppgokdocjljaa.B
