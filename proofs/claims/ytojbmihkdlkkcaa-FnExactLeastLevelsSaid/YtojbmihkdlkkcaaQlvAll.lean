/- All levels, as the reference builds them. No program, no memory. -/
import Derived.Test.YtojbmihkdlkkcaaB1
import Derived.Test.YtojbmihkdlkkcaaQ0
namespace Go.Proofs.Ytojbmihkdlkkcaa.Q
open Go.RowKit Go.Proofs.Ytojbmihkdlkkcaa.B Go.Proofs.YtojbmihkdlkkcaaW.PrintWords Go.Proofs.YtojbmihkdlkkcaaW.PrintLast Go.Proofs.YtojbmihkdlkkcaaW.PrintMore
set_option linter.unusedVariables false
set_option linter.unusedSimpArgs false
def lva (n1 : Nat) : Nat → Nat → List (List Int)
  | 0, _ => [[]]
  | f + 1, fr => [] :: (List.range' fr (n1 - fr)).flatMap fun q => (lva n1 f (q + 2)).map ((q : Int) :: ·)
theorem lva_small : ∀ n1, n1 ≤ 7 → ∀ f, f ≤ 4 → ∀ fr, fr ≤ 9 → (lva n1 f fr).length ≤ 100 ∧ (lva n1 f fr).all (fun x => x.length ≤ 8) = true := by decide +kernel
theorem rd_rows (l : List (List Int)) (i : Nat) (hi : i < l.length) : rd_L1 l (i : Int) = l[i] := by
  unfold rd_L1; simp [hi]
theorem lvAll_l1 (n : Int) (q : Nat) (xs : List (List Int)) (hx : xs.length ≤ 100) (hs : ∀ x ∈ xs, x.length ≤ 8) (R : List (List Int)) (d : Nat) : ∀ (j : Nat) (acc : List (List Int)), j + d = xs.length → acc.length + d ≤ 100000 →
    Ev (fun k => spec_lvAll.l0 k n (acc ++ (xs.drop j).map ((q : Int) :: ·)) (wrap64 ((q : Int) + 1))) R → Ev (fun k => spec_lvAll.l1 k n acc (q : Int) xs (xs.length : Int) (j : Int)) R := by
  induction d with
  | zero =>
    intro j acc hj _ h
    refine Ev.succ ?_
    have g1 : ¬ (j : Int) < (xs.length : Int) := by omega
    simp only [spec_lvAll.l1, g1, if_false]
    rw [List.drop_eq_nil_of_le (by omega)] at h
    simpa using h
  | succ d ih =>
    intro j acc hj hl h
    refine Ev.succ ?_
    have hj2 : j < xs.length := by omega
    have g1 : (j : Int) < (xs.length : Int) := by omega
    have g2 : (0 : Int) ≤ (j : Int) := by omega
    have g3 : [(q : Int)].length + xs[j].length < 17592186044416 := by have := hs xs[j] (List.getElem_mem hj2); simp; omega
    have g4 : acc.length < 5864062014805 := by omega
    simp only [spec_lvAll.l1, g1, g2, if_true, Option.bind_some, rd_rows xs j hj2, wrap_nat j xs.length hj2 (by omega)]
    simp only [g3, g4, if_true]
    refine ih (j + 1) _ (by omega) (by simp; omega) ?_
    rw [List.drop_eq_getElem_cons hj2, List.map_cons] at h
    rw [List.append_assoc]
    exact h
theorem lvAll_ev (n : Nat) (hn1 : 2 ≤ n) (hn : n ≤ 8) (f : Nat) : ∀ (fr : Nat), f ≤ 4 → fr ≤ 9 → n - 1 ≤ fr + 2 * f → Ev (fun k => spec_lvAll.f k (n : Int) (fr : Int)) (lva (n - 1) f fr) := by
  have gn : wrap64 ((n : Int) - 1) = ((n - 1 : Nat) : Int) := by unfold wrap64; omega
  induction f with
  | zero =>
    intro fr _ _ h
    refine Ev.succ ?_
    simp only [spec_lvAll.f]
    refine Ev.succ (Ev.ret fun k => ?_)
    rw [spec_lvAll.l0, gn, if_neg (by omega)]
    rfl
  | succ f ih =>
    intro fr hf hfr h
    refine Ev.succ ?_
    simp only [spec_lvAll.f]
    have key : ∀ (d r : Nat) (acc : List (List Int)), r + d = n - 1 → fr ≤ r → acc.length + 100 * d ≤ 10000 →
        Ev (fun k => spec_lvAll.l0 k (n : Int) acc (r : Int)) (acc ++ (List.range' r d).flatMap fun q => (lva (n - 1) f (q + 2)).map ((q : Int) :: ·)) := by
      intro d
      induction d with
      | zero =>
        intro r acc hr _ _
        refine Ev.succ (Ev.ret fun k => ?_)
        rw [spec_lvAll.l0, gn, if_neg (by omega)]; simp
      | succ d ihd =>
        intro r acc hr hle hl
        refine Ev.succ ?_
        have g1 : (r : Int) < ((n - 1 : Nat) : Int) := by omega
        have g2 : wrap64 ((r : Int) + 2) = ((r + 2 : Nat) : Int) := by unfold wrap64; omega
        simp only [spec_lvAll.l0, gn, g1, if_true, g2]
        refine Ev.bind (ih (r + 2) (by omega) (by omega) (by omega)) ?_
        have sm := lva_small (n - 1) (by omega) f (by omega) (r + 2) (by omega)
        refine lvAll_l1 (n : Int) r _ sm.1 (fun x hx => by simpa using List.all_eq_true.1 sm.2 x hx) _ (lva (n - 1) f (r + 2)).length 0 acc (by omega) (by omega) ?_
        rw [wrap_nat r n (by omega) (by omega), List.drop_zero]
        refine Ev.eq (ihd (r + 1) (acc ++ (lva (n - 1) f (r + 2)).map ((r : Int) :: ·)) (by omega) (by omega) (by rw [List.length_append, List.length_map]; omega)) ?_
        simp [List.range'_succ]
    by_cases c : fr ≤ n - 1
    · refine Ev.eq (key (n - 1 - fr) fr [[]] (by omega) (by omega) (by simp; omega)) ?_
      simp [lva]
    · refine Ev.succ (Ev.ret fun k => ?_)
      rw [spec_lvAll.l0, gn, if_neg (by omega)]
      have e : n - 1 - fr = 0 := by omega
      simp [lva, e]
end Go.Proofs.Ytojbmihkdlkkcaa.Q
