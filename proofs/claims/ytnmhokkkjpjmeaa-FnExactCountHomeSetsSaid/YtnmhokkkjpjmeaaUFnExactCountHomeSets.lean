/- The pure statement of FnExactCountHomeSets: the program's CountHomeSets and the reference's give the same. Conditions: none beyond the law's own. -/
import Derived.Test.YtnmhokkkjpjmeaaB1
import Derived.Test.YtnmhokkkjpjmeaaB2
import Derived.Test.YtnmhokkkjpjmeaaQtaking
import Derived.Test.YtnmhokkkjpjmeaaQgaLeft
import Derived.Test.YtnmhokkkjpjmeaaQsm
import Derived.Test.YtnmhokkkjpjmeaaQtoLadder
import Derived.Test.YtnmhokkkjpjmeaaQeqLadder
import Derived.Test.YtnmhokkkjpjmeaaQszLadder
namespace Go.Proofs.Ytnmhokkkjpjmeaa.Q
open Go.RowKit Go.Proofs.Ytnmhokkkjpjmeaa.B Go.Proofs.YtnmhokkkjpjmeaaW.PrintWords Go.Proofs.YtnmhokkkjpjmeaaW.PrintLast Go.Proofs.YtnmhokkkjpjmeaaW.PrintMore
set_option linter.unusedVariables false
set_option linter.unusedSimpArgs false
def homes (n : Nat) (l : List Int) (s : Nat) : Nat := sm (fun s => b2n (homeB n (leftR l s))) s
theorem homes_le (n : Nat) (l : List Int) (s : Nat) : homes n l s ≤ s := sm_le _ (fun _ => b2n_le _) s
theorem homes_succ (n : Nat) (l : List Int) (s : Nat) : homes n l (s + 1) = homes n l s + b2n (homeB n (leftR l s)) := rfl
theorem wrap_s (m : Nat) (h : m ≤ 4096) : wrap64 ((m : Int) + 1) = ((m + 1 : Nat) : Int) := wrap_nat m 5000 (by omega) (by omega)
theorem homes_spec (n : Nat) (hn : n ≤ 8) (l : List Int) (hl : l.length ≤ 12) : Ev (fun k => spec_CountHomeSets.l0 k 0 0 (n : Int) l) (((homes n l (2 ^ l.length) : Nat) : Int), true) := by
  have hpow := pow_12 l.length hl
  have key := Ev.inv (σ := Int) (L := fun k j s => spec_CountHomeSets.l0 k s (j : Int) (n : Int) l) (r := (((homes n l (2 ^ l.length) : Nat) : Int), true)) (n := 2 ^ l.length)
    (Inv := fun j s => s = ((homes n l j : Nat) : Int))
    (fun s hs => by
      subst hs
      refine Ev.succ (Ev.ret fun k => ?_)
      rw [spec_CountHomeSets.l0, shl_one l.length (by omega), if_neg (by omega)])
    (fun j s hj hs ih => by
      subst hs
      refine Ev.succ ?_
      have g1 : (j : Int) < ((2 ^ l.length : Nat) : Int) := Int.ofNat_lt.2 hj
      have hle := homes_le n l j
      have gw := wrap_s (homes n l j) (by omega)
      have gj := wrap_s j (by omega)
      have hll := leftR_length l j
      simp only [spec_CountHomeSets.l0, shl_one l.length (by omega), g1, if_true, gw, gj]
      refine Ev.bind (gaLeft_ev (n : Int) l (by omega) j) ?_
      refine Ev.bind (gaHome_ev n _ hn (by omega)) ?_
      have e := homes_succ n l j
      refine Ev.iteb (fun c => ?_) (fun c => ?_)
      · rw [c] at e; exact ih _ (by rw [e]; rfl)
      · rw [c] at e; exact ih _ (by rw [e]; rfl))
  exact key 0 0 (Nat.zero_le _) rfl
theorem cntH_ev (n : Nat) (hn : n ≤ 8) (l : List Int) (hl : l.length ≤ 12) : ∀ s, s ≤ 4096 → Ev (fun k => cntH k (n : Int) l s) ((homes n l s : Nat) : Int) := by
  intro s
  induction s with
  | zero => intro _; exact Ev.now _
  | succ s ih =>
    intro hs
    have hle := homes_le n l s
    have gw := wrap_s (homes n l s) (by omega)
    have hll := leftR_length l s
    refine Ev.bind (ih (by omega)) ?_
    refine Ev.bind (isHomely_ev n _ hn (by omega)) ?_
    refine Ev.eq (Ev.now _) ?_
    rw [homes_succ, gw]
    cases homeB n (leftR l s) with
    | true => rw [if_pos rfl]; rfl
    | false => rw [if_neg (by simp)]; rfl
theorem CountHomeSets_both (a : Int) (l : List Int) : ∃ r, Ev (fun k => spec_CountHomeSets.f k a l) r ∧ Ev (fun k => impl_CountHomeSets.f k a l) r := by
  unfold spec_CountHomeSets.f impl_CountHomeSets.f
  by_cases h : takingB a l = true
  · obtain ⟨n, rfl, h1, h2, h3, h4, h5⟩ := takingB_in h
    refine ⟨(((homes n l (2 ^ l.length) : Nat) : Int), true), ?_, ?_⟩
    · refine Ev.bind (gaTaking_ev _ l) ?_
      simp only [h, if_true]
      exact homes_spec n h2 l h3
    · refine Ev.bind (isTaking_ev _ l) ?_
      have g : l.length ≤ 20 := by omega
      simp only [h, g, if_true]
      exact Ev.bind (cntH_ev n h2 l h3 _ (pow_12 _ h3)) (Ev.now _)
  · have h' : takingB a l = false := by simpa using h
    refine ⟨(0, false), ?_, ?_⟩
    · refine Ev.bind (gaTaking_ev _ l) ?_
      simp only [h', Bool.false_eq_true, if_false]; exact Ev.now _
    · refine Ev.bind (isTaking_ev _ l) ?_
      simp only [h', Bool.false_eq_true, if_false]; exact Ev.now _
theorem FnExactCountHomeSets : ∀ (a0_0 : Int) (l0_1 : List Int), (Lit.int .i64 a0_0).wf = true → l0_1.length ≤ maxLen → (∀ x ∈ l0_1, (Lit.int .i64 x).wf = true) → ∃ k, laws_FnExactCountHomeSets.f k a0_0 l0_1 = some true := by
  intro a l _ hm _
  unfold maxLen at hm
  refine Ev.rounds ?_
  unfold laws_FnExactCountHomeSets.f
  simp only [szLadder_f a l hm, Option.bind_some]
  by_cases hl : l.length ≤ 1048576
  · have h2 : ¬ (1048576 - (l.length : Int)) < 0 := by omega
    have hneg := h2
    obtain ⟨r, hs, hi⟩ := CountHomeSets_both a l
    simp only [hl, if_true, h2, if_false]
    repeat' (first
      | exact Ev.now _
      | ((with_reducible refine Ev.bind hs ?_); try dsimp only)
      | ((with_reducible refine Ev.bind hi ?_); try dsimp only)
      | ((with_reducible refine Ev.bind (toLadder_ev _ _ (by omega)) ?_); try dsimp only)
      | ((with_reducible refine Ev.bind (toIntS_ev _ (by omega)) ?_); try dsimp only)
      | ((with_reducible refine Ev.bind (eqLadder_refl _ _ (by omega)) ?_); try dsimp only)
      | ((with_reducible refine Ev.bind (eqIntS_refl _ (by omega)) ?_); try dsimp only)
      | simp only [if_true, if_false, bne_self_eq_false, Bool.false_eq_true, eq_self, Option.bind_some, hneg]
      )
  · simp only [hl, if_false]
    simpa using Ev.now _
end Go.Proofs.Ytnmhokkkjpjmeaa.Q
