/- The pure statement of FnExactGoodPlaces: the program's GoodPlaces and the reference's give the same. Conditions: none beyond the law's own. -/
import Derived.Test.YthpdhoplddlieaaB14
import Derived.Test.YthpdhoplddlieaaQl1In
import Derived.Test.YthpdhoplddlieaaQplaceWins
import Derived.Test.YthpdhoplddlieaaQgaPlaces
import Derived.Test.YthpdhoplddlieaaQgaPlacing
import Derived.Test.YthpdhoplddlieaaQisPlacing
import Derived.Test.YthpdhoplddlieaaQsel
import Derived.Test.YthpdhoplddlieaaQeqIntS
import Derived.Test.YthpdhoplddlieaaQmark
namespace Go.Proofs.Ythpdhoplddlieaa.Q
open Go.RowKit Go.Proofs.Ythpdhoplddlieaa.B Go.Proofs.YthpdhoplddlieaaW.PrintWords Go.Proofs.YthpdhoplddlieaaW.PrintLast Go.Proofs.YthpdhoplddlieaaW.PrintMore
set_option linter.unusedVariables false
set_option linter.unusedSimpArgs false
theorem GoodPlaces_both (a w g m : Int) : ∃ r, Ev (fun k => spec_GoodPlaces.f k a w g m) r ∧ Ev (fun k => impl_GoodPlaces.f k a w g m) r ∧ r.1.length ≤ 8 := by
  unfold spec_GoodPlaces.f impl_GoodPlaces.f
  simp only [gaPlacing_f, isPlacing_f, l1In_f, Option.bind_some]
  have fail : Ev (fun k => spec_GoodPlaces.j0 k a w g m true) ([], false) := Ev.succ (Ev.ret fun k => by rw [spec_GoodPlaces.j0]; rfl)
  cases h1 : inB a 2 8 with
  | false => exact ⟨_, by simpa using fail, by simpa using Ev.now _, by simp⟩
  | true =>
    cases h2 : inB g 0 (wrap64 (a - 1)) with
    | false => exact ⟨_, by simpa using fail, by simpa using Ev.now _, by simp⟩
    | true =>
      cases h3 : inB m 0 8 with
      | false => exact ⟨_, by simpa using fail, by simpa using Ev.now _, by simp⟩
      | true =>
        cases h4 : inB w 0 (wrap64 (a - 1)) with
        | false => exact ⟨_, by simpa using fail, by simpa using Ev.now _, by simp⟩
        | true =>
        have ha := (inB_iff _ _ _).1 h1
        have e : wrap64 (a - 1) = a - 1 := wrap_in (by omega) (by omega)
        rw [e] at h2 h4
        have hg := (inB_iff _ _ _).1 h2
        have hm := (inB_iff _ _ _).1 h3
        have hw := (inB_iff _ _ _).1 h4
        obtain ⟨n, rfl⟩ : ∃ n : Nat, a = n := ⟨a.toNat, by omega⟩
        obtain ⟨mm, rfl⟩ : ∃ n : Nat, m = n := ⟨m.toNat, by omega⟩
        have e1 : wrap64 ((n : Int) - 1) = ((n - 1 : Nat) : Int) := by rw [e]; omega
        refine ⟨(sel (fun r => decide (0 < mm) && win n g (mm - 1) false (ovr w (r : Int))) (n - 1), true), ?_, ?_, ?_⟩
        · simp only [Bool.and_true, if_true, Bool.not_true]
          refine Ev.succ ?_
          simp only [spec_GoodPlaces.j0, Bool.false_eq_true, if_false]
          refine Ev.ite (fun hp => ?_) (fun hp => ?_)
          · have e2 : wrap64 ((mm : Int) - 1) = ((mm - 1 : Nat) : Int) := by unfold wrap64; omega
            have hp' : 0 < mm := by omega
            simp only [e2]
            refine Ev.bind (gaPlaces_ev n (by omega) (by omega) g (mm - 1) false (by omega) (by omega) (by omega)) ?_
            have key := Ev.inv (σ := List Int) (L := fun k j s => spec_GoodPlaces.l0 k (n : Int) w s (wins n g (mm - 1) false) (j : Int)) (r := (sel (fun r => decide (0 < mm) && win n g (mm - 1) false (ovr w (r : Int))) (n - 1), true)) (n := n - 1)
              (Inv := fun j s => s = sel (fun r => decide (0 < mm) && win n g (mm - 1) false (ovr w (r : Int))) j)
              (fun s hs => by
                subst hs
                refine Ev.succ (Ev.ret fun k => ?_)
                rw [spec_GoodPlaces.l0, e1, if_neg (by omega)])
              (fun j s hj hs ih => by
                subst hs
                refine Ev.succ ?_
                have hin := ovr_in (w := w) (n := n) (r := j) (by omega) (by omega) hj (by omega)
                have g1 : (j : Int) < ((n - 1 : Nat) : Int) := by omega
                have g0 : (0 : Int) ≤ ovr w j := hin.1
                have g3 : ovr w j < ((wins n g (mm - 1) false).length : Int) := by rw [wins_length]; omega
                have g2 : (sel (fun r => decide (0 < mm) && win n g (mm - 1) false (ovr w (r : Int))) j).length < 17592186044416 := by have := sel_length (fun r => decide (0 < mm) && win n g (mm - 1) false (ovr w (r : Int))) j; omega
                simp only [spec_GoodPlaces.l0, e1, g1, g0, g2, g3, if_true, laOver_f, Option.bind_some, wins_rd hin.1 hin.2, wrap_nat j (n - 1) hj (by omega)]
                refine Ev.iteb (fun h => ih _ ?_) (fun h => ih _ ?_)
                · exact (sel_yes (p := fun r => decide (0 < mm) && win n g (mm - 1) false (ovr w (r : Int))) (by simp [h, hp'])).symm
                · exact (sel_no (p := fun r => decide (0 < mm) && win n g (mm - 1) false (ovr w (r : Int))) (by simp [h])).symm)
            exact key 0 [] (Nat.zero_le _) rfl
          · have hp' : ¬ 0 < mm := by omega
            refine Ev.eq (Ev.now _) ?_
            have : ∀ j, sel (fun r => decide (0 < mm) && win n g (mm - 1) false (ovr w (r : Int))) j = [] := by
              intro j; induction j with
              | zero => rfl
              | succ j ih => rw [sel_no (by simp [hp']), ih]
            rw [this]
        · simp only [Bool.and_true, if_true, e1]
          have key := Ev.inv (σ := List Int) (L := fun k j s => impl_GoodPlaces.l0 k (n : Int) w g (mm : Int) s ((n - 1 : Nat) : Int) (j : Int)) (r := (sel (fun r => decide (0 < mm) && win n g (mm - 1) false (ovr w (r : Int))) (n - 1), true)) (n := n - 1)
            (Inv := fun j s => s = sel (fun r => decide (0 < mm) && win n g (mm - 1) false (ovr w (r : Int))) j)
            (fun s hs => by
              subst hs
              refine Ev.succ (Ev.ret fun k => ?_)
              rw [impl_GoodPlaces.l0, if_neg (by omega)])
            (fun j s hj hs ih => by
              subst hs
              refine Ev.succ ?_
              have g1 : (j : Int) < ((n - 1 : Nat) : Int) := by omega
              have g2 : (sel (fun r => decide (0 < mm) && win n g (mm - 1) false (ovr w (r : Int))) j).length < 17592186044416 := by have := sel_length (fun r => decide (0 < mm) && win n g (mm - 1) false (ovr w (r : Int))) j; omega
              simp only [impl_GoodPlaces.l0, g1, if_true, over_f, Option.bind_some, wrap_nat j (n - 1) hj (by omega)]
              refine Ev.ite (fun hp => ?_) (fun hp => ?_)
              · have e2 : wrap64 ((mm : Int) - 1) = ((mm - 1 : Nat) : Int) := by unfold wrap64; omega
                have hp' : 0 < mm := by omega
                simp only [e2, g2, if_true]
                refine Ev.bind (placeWins_ev n (by omega) (by omega) g (mm - 1) (ovr w j) false (by omega)) ?_
                refine Ev.iteb (fun h => ih _ ?_) (fun h => ih _ ?_)
                · exact (sel_yes (p := fun r => decide (0 < mm) && win n g (mm - 1) false (ovr w (r : Int))) (by simp [h, hp'])).symm
                · exact (sel_no (p := fun r => decide (0 < mm) && win n g (mm - 1) false (ovr w (r : Int))) (by simp [h])).symm
              · have hp' : ¬ 0 < mm := by omega
                exact ih _ (sel_no (p := fun r => decide (0 < mm) && win n g (mm - 1) false (ovr w (r : Int))) (by simp [hp'])).symm)
          exact key 0 [] (Nat.zero_le _) rfl
        · have := sel_length (fun r => decide (0 < mm) && win n g (mm - 1) false (ovr w (r : Int))) (n - 1); simp only; omega
theorem FnExactGoodPlaces : ∀ (a0 : Int) (a1 : Int) (a2 : Int) (a3 : Int), (Lit.int .i64 a0).wf = true → (Lit.int .i64 a1).wf = true → (Lit.int .i64 a2).wf = true → (Lit.int .i64 a3).wf = true → ∃ k, laws_FnExactGoodPlaces.f k a0 a1 a2 a3 = some true := by
  intro a w g m _ _ _ _
  obtain ⟨r, hs, hi, hr⟩ := GoodPlaces_both a w g m
  refine Ev.rounds ?_
  have hneg : ¬ markEnd 1 r.1.length < 0 := by have := markEnd_eq r.1.length 1 (by omega) (by omega); omega
  unfold laws_FnExactGoodPlaces.f
  repeat' (first
    | exact Ev.now _
    | ((with_reducible refine Ev.bind hs ?_); try dsimp only)
    | ((with_reducible refine Ev.bind hi ?_); try dsimp only)
    | ((with_reducible refine Ev.bind (toLadder_ev _ _ (by omega)) ?_); try dsimp only)
    | ((with_reducible refine Ev.bind (toIntS_ev _ (by omega)) ?_); try dsimp only)
    | ((with_reducible refine Ev.bind (eqLadder_refl _ _ (by omega)) ?_); try dsimp only)
    | ((with_reducible refine Ev.bind (eqIntS_refl _ (by omega)) ?_); try dsimp only)
    | ((with_reducible refine Ev.bind (markLadder_ev _ _ _ (by omega)) ?_); try dsimp only)
    | ((with_reducible refine Ev.bind (markIntS_ev _ _ (by omega)) ?_); try dsimp only)
    | ((with_reducible refine Ev.bind (heldLadder_ev _ _ _ (by omega) (by omega)) ?_); try dsimp only)
    | ((with_reducible refine Ev.bind (heldIntS_ev _ _ (by omega)) ?_); try dsimp only)
    | simp only [if_true, if_false, bne_self_eq_false, Bool.false_eq_true, eq_self, Option.bind_some, hneg]
    | (refine Ev.succ ?_; simp only [laws_FnExactGoodPlaces.j0])
    | (refine Ev.succ ?_; simp only [laws_FnExactGoodPlaces.j1])
    )
end Go.Proofs.Ythpdhoplddlieaa.Q
