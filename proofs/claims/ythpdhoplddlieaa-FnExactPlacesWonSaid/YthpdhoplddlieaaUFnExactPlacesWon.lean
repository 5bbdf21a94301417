/- The pure statement of FnExactPlacesWon: the program's PlacesWon and the reference's give the same. Conditions: none beyond the law's own. -/
import Derived.Test.YthpdhoplddlieaaB11
import Derived.Test.YthpdhoplddlieaaQl1In
import Derived.Test.YthpdhoplddlieaaQplaceWins
import Derived.Test.YthpdhoplddlieaaQgaPlaces
import Derived.Test.YthpdhoplddlieaaQgaPlacing
import Derived.Test.YthpdhoplddlieaaQisPlacing
import Derived.Test.YthpdhoplddlieaaQsel
import Derived.Test.YthpdhoplddlieaaQeqIntS
import Derived.Test.YthpdhoplddlieaaQmark
namespace Go.Proofs.Ythpdhoplddlieaa.Q
open Go.RowKit Go.Proofs.Ythpdhoplddlieaa.B Go.Proofs.YthpdhoplddlieaaW.PrintWords Go.Proofs.YthpdhoplddlieaaW.PrintLast Go.Proofs.YthpdhoplddlieaaW.PrintMore
set_option linter.unusedVariables false
set_option linter.unusedSimpArgs false
theorem PlacesWon_both (a g m : Int) : ∃ r, Ev (fun k => spec_PlacesWon.f k a g m) r ∧ Ev (fun k => impl_PlacesWon.f k a g m) r ∧ r.1.length ≤ 8 := by
  unfold spec_PlacesWon.f impl_PlacesWon.f
  simp only [gaPlacing_f, isPlacing_f, Option.bind_some]
  cases h1 : inB a 2 8 with
  | false => exact ⟨_, by simpa using Ev.now _, by simpa using Ev.now _, by simp⟩
  | true =>
    cases h2 : inB g 0 (wrap64 (a - 1)) with
    | false => exact ⟨_, by simpa using Ev.now _, by simpa using Ev.now _, by simp⟩
    | true =>
      cases h3 : inB m 0 8 with
      | false => exact ⟨_, by simpa using Ev.now _, by simpa using Ev.now _, by simp⟩
      | true =>
        have ha := (inB_iff _ _ _).1 h1
        have e : wrap64 (a - 1) = a - 1 := wrap_in (by omega) (by omega)
        rw [e] at h2
        have hg := (inB_iff _ _ _).1 h2
        have hm := (inB_iff _ _ _).1 h3
        have h4 : inB 0 0 (wrap64 (a - 1)) = true := by rw [e]; exact (inB_iff _ _ _).2 ⟨by omega, by omega⟩
        obtain ⟨n, rfl⟩ : ∃ n : Nat, a = n := ⟨a.toNat, by omega⟩
        obtain ⟨mm, rfl⟩ : ∃ n : Nat, m = n := ⟨m.toNat, by omega⟩
        refine ⟨(sel (fun w => win n g mm true (w : Int)) n, true), ?_, ?_, ?_⟩
        · simp only [Bool.and_true, if_true]
          refine Ev.bind (gaPlaces_ev n (by omega) (by omega) g mm true (by omega) (by omega) (by omega)) ?_
          have key := Ev.inv (σ := List Int) (L := fun k j s => spec_PlacesWon.l0 k s (wins n g mm true) ((wins n g mm true).length : Int) (j : Int)) (r := (sel (fun w => win n g mm true (w : Int)) n, true)) (n := n)
            (Inv := fun j s => s = sel (fun w => win n g mm true (w : Int)) j)
            (fun s hs => by
              subst hs
              refine Ev.succ (Ev.ret fun k => ?_)
              rw [spec_PlacesWon.l0, if_neg (by rw [wins_length]; omega)])
            (fun j s hj hs ih => by
              subst hs
              refine Ev.succ ?_
              have g1 : (j : Int) < ((wins n g mm true).length : Int) := by rw [wins_length]; omega
              have g0 : (0 : Int) ≤ (j : Int) := by omega
              have g2 : (sel (fun w => win n g mm true (w : Int)) j).length < 17592186044416 := by have := sel_length (fun w => win n g mm true (w : Int)) j; omega
              simp only [spec_PlacesWon.l0, g1, g0, g2, if_true, wins_rd g0 (by omega : (j : Int) < n), wrap_nat j n hj (by omega)]
              refine Ev.iteb (fun h => ih _ ?_) (fun h => ih _ ?_)
              · exact (sel_yes (p := fun w => win n g mm true (w : Int)) h).symm
              · exact (sel_no (p := fun w => win n g mm true (w : Int)) h).symm)
          exact key 0 [] (Nat.zero_le _) rfl
        · simp only [h4, Bool.and_true, if_true]
          have key := Ev.inv (σ := List Int) (L := fun k j s => impl_PlacesWon.l0 k (n : Int) g (mm : Int) s (n : Int) (j : Int)) (r := (sel (fun w => win n g mm true (w : Int)) n, true)) (n := n)
            (Inv := fun j s => s = sel (fun w => win n g mm true (w : Int)) j)
            (fun s hs => by
              subst hs
              refine Ev.succ (Ev.ret fun k => ?_)
              rw [impl_PlacesWon.l0, if_neg (by omega)])
            (fun j s hj hs ih => by
              subst hs
              refine Ev.succ ?_
              have g1 : (j : Int) < (n : Int) := by omega
              have g2 : (sel (fun w => win n g mm true (w : Int)) j).length < 17592186044416 := by have := sel_length (fun w => win n g mm true (w : Int)) j; omega
              simp only [impl_PlacesWon.l0, g1, g2, if_true, wrap_nat j n hj (by omega)]
              refine Ev.bind (placeWins_ev n (by omega) (by omega) g mm (j : Int) true (by omega)) ?_
              refine Ev.iteb (fun h => ih _ ?_) (fun h => ih _ ?_)
              · exact (sel_yes (p := fun w => win n g mm true (w : Int)) h).symm
              · exact (sel_no (p := fun w => win n g mm true (w : Int)) h).symm)
          exact key 0 [] (Nat.zero_le _) rfl
        · have := sel_length (fun w => win n g mm true (w : Int)) n; simp; omega
theorem FnExactPlacesWon : ∀ (a0 : Int) (a1 : Int) (a2 : Int), (Lit.int .i64 a0).wf = true → (Lit.int .i64 a1).wf = true → (Lit.int .i64 a2).wf = true → ∃ k, laws_FnExactPlacesWon.f k a0 a1 a2 = some true := by
  intro a g m _ _ _
  obtain ⟨r, hs, hi, hr⟩ := PlacesWon_both a g m
  refine Ev.rounds ?_
  have hneg : ¬ markEnd 1 r.1.length < 0 := by have := markEnd_eq r.1.length 1 (by omega) (by omega); omega
  unfold laws_FnExactPlacesWon.f
  repeat' (first
    | exact Ev.now _
    | ((with_reducible refine Ev.bind hs ?_); try dsimp only)
    | ((with_reducible refine Ev.bind hi ?_); try dsimp only)
    | ((with_reducible refine Ev.bind (toLadder_ev _ _ (by omega)) ?_); try dsimp only)
    | ((with_reducible refine Ev.bind (toIntS_ev _ (by omega)) ?_); try dsimp only)
    | ((with_reducible refine Ev.bind (eqLadder_refl _ _ (by omega)) ?_); try dsimp only)
    | ((with_reducible refine Ev.bind (eqIntS_refl _ (by omega)) ?_); try dsimp only)
    | ((with_reducible refine Ev.bind (markLadder_ev _ _ _ (by omega)) ?_); try dsimp only)
    | ((with_reducible refine Ev.bind (markIntS_ev _ _ (by omega)) ?_); try dsimp only)
    | ((with_reducible refine Ev.bind (heldLadder_ev _ _ _ (by omega) (by omega)) ?_); try dsimp only)
    | ((with_reducible refine Ev.bind (heldIntS_ev _ _ (by omega)) ?_); try dsimp only)
    | simp only [if_true, if_false, bne_self_eq_false, Bool.false_eq_true, eq_self, Option.bind_some, hneg]
    | (refine Ev.succ ?_; simp only [laws_FnExactPlacesWon.j0])
    | (refine Ev.succ ?_; simp only [laws_FnExactPlacesWon.j1])
    )
end Go.Proofs.Ythpdhoplddlieaa.Q
