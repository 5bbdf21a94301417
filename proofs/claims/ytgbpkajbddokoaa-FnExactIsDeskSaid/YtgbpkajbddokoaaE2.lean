/- A struct that holds a struct, by value, opened. Conditions: those of its statement. -/
import Derived.Lib.SmallJoins
namespace Go.Proofs.YtgbpkajbddokoaaW.PrintWords
open Go.ChangeShapes Go.WideShapes Go.RowKit Go.Joins Go.Deep
/-- A struct by value whose first field is a struct of two cells, and whose second one is of one cell, opened. -/
theorem open_nested {H : Type} {enc : TypeId × Value → H} {P : Program} {w : World} {base : Nat} {spare : Nat → Bool} {held : Bool} {r : Reach} {b0 : Nat} {t : TypeId} {f0 f1 g0 g1 : Field} {v : Value} {d : DataW H} {p : List MemPlace}
    (hs : P.underlying t = some (.struct #[f0, f1])) (hs0 : P.underlying f0.type = some (.struct #[g0, g1])) (ho : f0.offset = 0 ∧ P.cellsOf f0.type = 2 ∧ f1.offset = 2 ∧ P.cellsOf f1.type = 1) (hone : oneCellFields P #[g0, g1] = true) (hC : P.cellsOf t = 3)
    (hv : Value.okWide P w r b0 t v) (h : DataW.Trod enc P w base spare held t v d p) :
    ∃ (c0 c1 c2 : Value) (m n : Nat) (y0 y1 y2 : DataW H × List MemPlace), v = .agg #[c0, c1, c2] ∧ DataW.trod enc P w base spare held m g0.type [c0] = some y0 ∧ DataW.trod enc P w base spare held m g1.type [c1] = some y1 ∧ DataW.trod enc P w base spare held n f1.type [c2] = some y2 := by
  obtain ⟨cs, rfl, hsz⟩ := okWide_struct hs hv
  obtain ⟨c0, c1, c2, rfl⟩ := array3 (hsz.trans hC)
  obtain ⟨fuel, hf⟩ := h
  obtain ⟨y0, y2, n, hx, _, h0, h2⟩ := trod_struct2 hs hf
  obtain ⟨o0, k0, o1, k1⟩ := ho
  have h0' : DataW.trod enc P w base spare held n f0.type [c0, c1] = some y0 := by simpa [Value.cells, o0, k0] using h0
  have h2' : DataW.trod enc P w base spare held n f1.type [c2] = some y2 := by simpa [Value.cells, o1, k1] using h2
  obtain ⟨z0, z1, m, _, _, i0, i1⟩ := trod_struct2 hs0 h0'
  obtain ⟨q0, l0⟩ := hone_of hone 0 g0 rfl
  obtain ⟨q1, l1⟩ := hone_of hone 1 g1 rfl
  exact ⟨c0, c1, c2, m, n, z0, z1, y2, rfl, by simpa [q0, l0] using i0, by simpa [q1, l1] using i1, h2'⟩
end Go.Proofs.YtgbpkajbddokoaaW.PrintWords
