/- The pure statement of FnExactPutWire: the program's PutWire and the reference's give the same. Conditions: none beyond the law's own. -/
import Derived.Test.YthpdhoplddlieaaB4
import Derived.Test.YthpdhoplddlieaaB21
import Derived.Test.YthpdhoplddlieaaB22
import Derived.Test.YthpdhoplddlieaaQl1In
import Derived.Test.YthpdhoplddlieaaQbetween
import Derived.Test.YthpdhoplddlieaaQhas
import Derived.Test.YthpdhoplddlieaaQlaIf
import Derived.Test.YthpdhoplddlieaaQtoLadder
import Derived.Test.YthpdhoplddlieaaQeqLadder
import Derived.Test.YthpdhoplddlieaaQmarkLadder
import Derived.Test.YthpdhoplddlieaaQszLadder
namespace Go.Proofs.Ythpdhoplddlieaa.Q
open Go.RowKit Go.Proofs.Ythpdhoplddlieaa.B Go.Proofs.YthpdhoplddlieaaW.PrintWords Go.Proofs.YthpdhoplddlieaaW.PrintLast Go.Proofs.YthpdhoplddlieaaW.PrintMore
set_option linter.unusedVariables false
set_option linter.unusedSimpArgs false
def moved (x r : Int) : Int := if r ≥ x then wrap64 (r + 1) else r
theorem PutWire_both (a : Int) (l : List Int) (x : Int) : ∃ r, Ev (fun k => spec_PutWire.f k a l x) r ∧ Ev (fun k => impl_PutWire.f k a l x) r ∧ r.2.1.length ≤ 60 := by
  have fails : Ev (fun k => spec_PutWire.j0 k x true a l) (0, [], false) := Ev.succ (Ev.ret fun k => by rw [spec_PutWire.j0]; rfl)
  have faili : Ev (fun k => impl_PutWire.j0 k x true a l) (0, [], false) := Ev.succ (Ev.ret fun k => by rw [impl_PutWire.j0]; rfl)
  have hS : Ev (fun k => spec_PutWire.f k a l x) (if isLadderB a l = true ∧ inB x 0 a = true ∧ ¬ (wrap64 (x - 1) ∈ l) then ifLadder (wrap64 (a + 1)) (l.map (moved x)) else (0, [], false)) := by
    unfold spec_PutWire.f
    refine Ev.bind (laGood_ev a l) ?_
    refine Ev.iteb (fun h => ?_) (fun h => ?_)
    · have hl := ((isLadderB_iff a l).1 h).2.2.1
      simp only [l1In_f, Option.bind_some]
      refine Ev.iteb (fun h2 => ?_) (fun h2 => ?_)
      · refine Ev.bind (l1Has_ev l _ (by omega)) ?_
        refine Ev.succ ?_
        simp only [spec_PutWire.j0]
        refine Ev.iteb (fun h3 => ?_) (fun h3 => ?_)
        · rw [if_neg (by simp at h3; simp [h3])]; exact Ev.now _
        · rw [if_pos (by simp at h3; simp [h, h2, h3])]
          have key := Ev.inv (σ := List Int) (L := fun k j s => spec_PutWire.l0 k x l (l.length : Int) (j : Int) (wrap64 (a + 1)) s) (r := ifLadder (wrap64 (a + 1)) (l.map (moved x))) (n := l.length)
            (Inv := fun j s => s = (l.take j).map (moved x))
            (fun s hs => by
              subst hs
              refine Ev.succ ?_
              have g1 : ¬ (l.length : Int) < (l.length : Int) := by omega
              simp only [spec_PutWire.l0, g1, if_false, List.take_length]
              exact Ev.bind (laIf_ev _ _) (Ev.now _))
            (fun j s hj hs ih => by
              subst hs
              refine Ev.succ ?_
              have g1 : (j : Int) < (l.length : Int) := by omega
              have g0 : (0 : Int) ≤ (j : Int) := by omega
              have g2 : ((l.take j).map (moved x)).length < 17592186044416 := by rw [List.length_map, List.length_take]; omega
              simp only [spec_PutWire.l0, g1, g0, g2, if_true, rd_nat l j hj, wrap_nat j _ hj (by omega)]
              refine Ev.ite (fun h => ih _ ?_) (fun h => ih _ ?_)
              · rw [take_snoc l j hj, List.map_append, List.map_cons, List.map_nil, moved, if_pos h]
              · rw [take_snoc l j hj, List.map_append, List.map_cons, List.map_nil, moved, if_neg h])
          exact key 0 [] (Nat.zero_le _) rfl
      · rw [if_neg (by simp [h2])]; exact fails
    · rw [if_neg (by simp [h])]; exact fails
  refine ⟨_, hS, ?_, ?_⟩
  · unfold impl_PutWire.f impl_isLadder.f
    simp only [Option.bind_some, btw_f]
    refine Ev.iteb (fun h => ?_) (fun h => ?_)
    · have hl := (isLadderB_iff a l).1 h
      cases h2 : inB x 0 a with
      | false => simpa using faili
      | true =>
        have hx : 0 ≤ x ∧ x ≤ a := by unfold inB at h2; simpa using h2
        have ex : wrap64 (x - 1) = x - 1 := wrap_in (by omega) (by omega)
        simp only [Bool.not_true]
        refine Ev.succ ?_
        simp only [impl_PutWire.j0, Bool.false_eq_true, if_false]
        have key : ∀ d j, j ≤ l.length → l.length - j = d → (¬ (x - 1) ∈ l.take j) → Ev (fun k => impl_PutWire.l0 k x l (l.length : Int) (j : Int) (wrap64 (a + 1)) ((l.take j).map (moved x))) (if isLadderB a l = true ∧ True ∧ ¬ (wrap64 (x - 1) ∈ l) then ifLadder (wrap64 (a + 1)) (l.map (moved x)) else (0, [], false)) := by
          intro d
          induction d with
          | zero =>
            intro j h1 hd hn
            obtain rfl : j = l.length := by omega
            rw [List.take_length] at hn
            refine Ev.succ ?_
            have g1 : ¬ (l.length : Int) < (l.length : Int) := by omega
            simp only [impl_PutWire.l0, g1, if_false, List.take_length, checked_f, Option.bind_some]
            rw [if_pos ⟨h, trivial, by rw [ex]; exact hn⟩]
            exact Ev.now _
          | succ d ih =>
            intro j h1 hd hn
            have hj : j < l.length := by omega
            refine Ev.succ ?_
            have g1 : (j : Int) < (l.length : Int) := by omega
            have g0 : (0 : Int) ≤ (j : Int) := by omega
            have g2 : ((l.take j).map (moved x)).length < 17592186044416 := by rw [List.length_map, List.length_take]; omega
            simp only [impl_PutWire.l0, g1, g0, g2, if_true, rd_nat l j hj, ex, wrap_nat j _ hj (by omega)]
            refine Ev.ite (fun h3 => ?_) (fun h3 => ?_)
            · rw [if_neg (by rw [← h3]; simp [List.getElem_mem hj])]; exact Ev.now _
            · have hn' : ¬ (x - 1) ∈ l.take (j + 1) := by
                rw [take_snoc l j hj, List.mem_append, List.mem_singleton]
                exact fun e => e.elim hn (fun e => h3 e.symm)
              have := ih (j + 1) (by omega) (by omega) hn'
              rw [ex] at this
              rw [take_snoc l j hj, List.map_append] at this
              refine Ev.ite (fun h4 => ?_) (fun h4 => ?_)
              · simpa [moved, h4] using this
              · simpa [moved, h4] using this
        have := key l.length 0 (Nat.zero_le _) (by omega) (by simp)
        simpa using this
    · rw [if_neg (by simp [h])]; exact faili
  · split
    · exact ifLadder_length _ _
    · simp
theorem FnExactPutWire : ∀ (a0_0 : Int) (l0_1 : List Int) (a1 : Int), (Lit.int .i64 a0_0).wf = true → l0_1.length ≤ maxLen → (∀ x ∈ l0_1, (Lit.int .i64 x).wf = true) → (Lit.int .i64 a1).wf = true → ∃ k, laws_FnExactPutWire.f k a0_0 l0_1 a1 = some true := by
  intro a l x _ hm _ _
  unfold maxLen at hm
  refine Ev.rounds ?_
  unfold laws_FnExactPutWire.f
  simp only [szLadder_f a l hm, Option.bind_some]
  by_cases hl : l.length ≤ 1048576
  · have h2 : ¬ (1048576 - (l.length : Int)) < 0 := by omega
    obtain ⟨r, hs, hi, hr⟩ := PutWire_both a l x
    have hneg : ¬ markEnd 1 r.2.1.length < 0 := by have := markEnd_eq r.2.1.length 1 (by omega) (by omega); omega
    have hneg2 : ¬ markEnd 1 l.length < 0 := by have := markEnd_eq l.length 1 (by omega) (by omega); omega
    simp only [hl, if_true, h2, if_false]
    repeat' (first
      | exact Ev.now _
      | ((with_reducible refine Ev.bind hs ?_); try dsimp only)
      | ((with_reducible refine Ev.bind hi ?_); try dsimp only)
      | ((with_reducible refine Ev.bind (toLadder_ev _ _ (by omega)) ?_); try dsimp only)
      | ((with_reducible refine Ev.bind (toIntS_ev _ (by omega)) ?_); try dsimp only)
      | ((with_reducible refine Ev.bind (eqLadder_refl _ _ (by omega)) ?_); try dsimp only)
      | ((with_reducible refine Ev.bind (eqIntS_refl _ (by omega)) ?_); try dsimp only)
      | ((with_reducible refine Ev.bind (markLadder_ev _ _ _ (by omega)) ?_); try dsimp only)
      | ((with_reducible refine Ev.bind (markIntS_ev _ _ (by omega)) ?_); try dsimp only)
      | ((with_reducible refine Ev.bind (heldLadder_ev _ _ _ (by omega) (by omega)) ?_); try dsimp only)
      | ((with_reducible refine Ev.bind (heldIntS_ev _ _ (by omega)) ?_); try dsimp only)
      | simp only [if_true, if_false, bne_self_eq_false, Bool.false_eq_true, eq_self, Option.bind_some, hneg, hneg2]
      | (refine Ev.succ ?_; simp only [laws_FnExactPutWire.j0])
      | (refine Ev.succ ?_; simp only [laws_FnExactPutWire.j1])
      | (refine Ev.succ ?_; simp only [laws_FnExactPutWire.j2])
      )
  · simp only [hl, if_false]
    simpa using Ev.now _
end Go.Proofs.Ythpdhoplddlieaa.Q
