/- Plain words that the walks of this claim use: no program, no memory. -/
import Derived.Lib.Hide
import Derived.Shelf.Abstract
import Derived.WalkSpells
import Derived.Lib.SliceRun
import Derived.Laws.BitsLemmas
import Derived.Maps.OwnSet
import Derived.Lib.OthersKept
import Derived.Test.YtjppgokdocjljaaDoorWMore
namespace Go.Proofs.YtjppgokdocjljaaDoor.B
open Go.RowKit Go.Proofs.YtjppgokdocjljaaDoorW.PrintWords Go.Proofs.YtjppgokdocjljaaDoorW.PrintLast Go.Proofs.YtjppgokdocjljaaDoorW.PrintMore
/-- The place of the first element from i on at which p holds, or -1. -/
def idxFrom (p : Int → Bool) : List Int → Nat → Int
  | [], _ => -1
  | x :: l, i => if p x = true then (i : Int) else idxFrom p l (i + 1)
theorem idxFrom_hit {p : Int → Bool} {l : List Int} {i j : Nat} (h : i < l.length) (hp : p l[i] = true) : idxFrom p (l.drop i) j = (j : Int) := by
  rw [List.drop_eq_getElem_cons h]; simp only [idxFrom]; rw [if_pos hp]
theorem idxFrom_next {p : Int → Bool} {l : List Int} {i j : Nat} (h : i < l.length) (hp : p l[i] = false) : idxFrom p (l.drop i) j = idxFrom p (l.drop (i + 1)) (j + 1) := by
  rw [List.drop_eq_getElem_cons h]; simp only [idxFrom]; rw [if_neg (by simp [hp])]
theorem idxFrom_any (p : Int → Bool) : ∀ (l : List Int) (j : Nat), decide (0 ≤ idxFrom p l j) = l.any p
  | [], _ => rfl
  | x :: l, j => by
    by_cases h : p x = true
    · simp [idxFrom, h]
    · simp [idxFrom, h, idxFrom_any p l (j + 1)]

theorem wraps_i64_62 (n : Int) (h₀ : 0 ≤ n) (h₁ : n < 2 ^ 62) : IntKind.i64.wrap n = n := by rw [IntKind.wrap_i64]; omega
theorem and_one (m : Nat) (h : m < 4611686018427387904) : Go.bits .and .i64 (m : Int) 1 = ((m % 2 : Nat) : Int) := by
  have h := bits_mask .i64 62 (by decide) wraps_i64_62 1 (by decide) (m : Int) (by omega) (by omega)
  have e : ((2 : Int) ^ 1 - 1) = 1 := by decide
  have e2 : ((2 : Int) ^ 1) = 2 := by decide
  rw [e, e2] at h
  rw [h]
  omega
theorem shr_nat (m q : Nat) (h : q ≤ 64) : ((m : Int) / 2 ^ min q 64) = ((m / 2 ^ q : Nat) : Int) := by
  rw [Nat.min_eq_left h]; push_cast; rfl
def inB (a b c : Int) : Bool := decide (b ≤ a) && decide (a ≤ c)
end Go.Proofs.YtjppgokdocjljaaDoor.B
