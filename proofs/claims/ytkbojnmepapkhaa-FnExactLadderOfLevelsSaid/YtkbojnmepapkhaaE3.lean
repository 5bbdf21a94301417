/- A slice of slices of whole numbers, opened: what the words of the walks ask of it. Conditions: those of its statement. -/
import Derived.Deep.Matrix
import Derived.Test.YtkbojnmepapkhaaWWords
namespace Go.Proofs.YtkbojnmepapkhaaW.PrintWords
open Go.ChangeShapes Go.WideShapes Go.RowKit Go.Deep
theorem open_rows_C {H : Type} {enc : TypeId × Value → H} {P : Program} {w : World} {base : Nat} {held : Bool} {t e q : TypeId} {fuel : Nat} {A : Option Addr} {len cap : Nat} {x : DataW H × List MemPlace} (ht : P.underlying t = some (.slice e)) (he : P.underlying e = some (.slice q)) (hq : P.underlying q = some (.int .i64))
    (ce : P.cellsOf e = 1) (cq : P.cellsOf q = 1) (T : Nat) (h : DataW.trod enc P w base (fun _ => true) held fuel t (Value.slice A len cap).cells.toList = some x) :
    ∃ ls : List (List Int), ls.length = len ∧ len ≤ cap ∧ Kd.C (Kd.slice T (Kd.int .i64)) w A ls.length ls ∧ ls.length ≤ maxLen ∧ ∀ l ∈ ls, l.length ≤ maxLen ∧ ∀ y ∈ l, (Lit.int .i64 y).wf = true := by
  rcases open_int_rows ht he hq ce cq h with ⟨hcs, _⟩ | ⟨a, n, c, Ar, Lr, Cr, Zr, hcs, _, hl, hm, _, hr⟩
  · simp [Value.cells] at hcs
    obtain ⟨rfl, rfl, rfl⟩ := hcs
    exact ⟨[], rfl, Nat.le_refl _, Kd.C_nil _ _, by simp [maxLen], fun _ h => by cases h⟩
  · simp [Value.cells] at hcs
    obtain ⟨rfl, rfl, rfl⟩ := hcs
    have hlen : ∀ j, j < len → ((Zr j).take (Lr j)).length = Lr j := by
      intro j hj
      obtain ⟨_, h2, _, h4, _⟩ := hr j (by omega)
      rw [List.length_take, h4]; omega
    refine ⟨(List.range len).map fun r => (Zr r).take (Lr r), by simp, hl, ?_, by simp; omega, ?_⟩
    · have hm' : len ≤ 9223372036854775807 := by simp only [maxLen] at hm; omega
      refine ⟨rfl, by simpa using hm', fun _ => ⟨a, rfl, fun j p hp => ?_⟩⟩
      have hj : j < len := by
        have := (List.getElem?_eq_some_iff.1 hp).1; simpa using this
      have hp2 : (Zr j).take (Lr j) = p := by
        rw [List.getElem?_map, List.getElem?_range hj] at hp
        simpa using hp
      obtain ⟨h1, h2, h3, h4, h5, h6, h7⟩ := hr j (by omega)
      have hpl : p.length = Lr j := by rw [← hp2]; exact hlen j hj
      refine ⟨[.slice (Ar j) (Lr j) (Cr j)], rfl, ⟨Ar j, Cr j, by rw [hpl], by omega, ?_⟩, ?_⟩
      · refine ⟨rfl, by rw [hpl]; simp only [maxLen] at h3; omega, fun h0 => ?_⟩
        rcases hA : Ar j with _ | a'
        · have := h6 hA; omega
        · refine ⟨a', rfl, fun i y hy => ⟨[.int .i64 y], rfl, rfl, fun d u hu => ?_⟩⟩
          have hi : i < p.length := (List.getElem?_eq_some_iff.1 hy).1
          have hd : d = 0 ∧ u = .int .i64 y := by
            rcases d with _ | d
            · simpa using hu.symm
            · simp at hu
          obtain ⟨rfl, rfl⟩ := hd
          have hc := (h7 a' hA).2 i (by omega)
          have hz : (Zr j).getD i 0 = y := by
            rw [← hp2, List.getElem?_take] at hy
            rw [List.getD_eq_getElem?_getD]
            split at hy
            · rw [hy]; rfl
            · cases hy
          rw [hz] at hc
          show w.cell? (a'.add (i * 1 + 0)) = _
          simpa using hc
      · intro d u hu
        rcases d with _ | d
        · have : u = .slice (Ar j) (Lr j) (Cr j) := by simpa using hu.symm
          subst this
          show w.cell? (a.add (j * 1 + 0)) = _
          simpa using h1
        · simp at hu
    · intro l hl'
      obtain ⟨r, hr', rfl⟩ := List.mem_map.1 hl'
      have hrl : r < len := List.mem_range.1 hr'
      obtain ⟨_, h2, h3, h4, h5, _⟩ := hr r (by omega)
      exact ⟨by rw [hlen r hrl]; omega, fun y hy => h5 y (List.mem_of_mem_take hy)⟩
end Go.Proofs.YtkbojnmepapkhaaW.PrintWords
