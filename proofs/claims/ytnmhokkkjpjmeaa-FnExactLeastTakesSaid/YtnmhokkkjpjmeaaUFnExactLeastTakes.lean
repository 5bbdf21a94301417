/- The pure statement of FnExactLeastTakes: the program's LeastTakes and the reference's give the same. Conditions: none beyond the law's own. -/
import Derived.Test.YtnmhokkkjpjmeaaB1
import Derived.Test.YtnmhokkkjpjmeaaB5
import Derived.Test.YtnmhokkkjpjmeaaQtaking
import Derived.Test.YtnmhokkkjpjmeaaQgaLeft
import Derived.Test.YtnmhokkkjpjmeaaQsm
import Derived.Test.YtnmhokkkjpjmeaaQtoLadder
import Derived.Test.YtnmhokkkjpjmeaaQeqLadder
import Derived.Test.YtnmhokkkjpjmeaaQszLadder
namespace Go.Proofs.Ytnmhokkkjpjmeaa.Q
open Go.RowKit Go.Proofs.Ytnmhokkkjpjmeaa.B Go.Proofs.YtnmhokkkjpjmeaaW.PrintWords Go.Proofs.YtnmhokkkjpjmeaaW.PrintLast Go.Proofs.YtnmhokkkjpjmeaaW.PrintMore
set_option linter.unusedVariables false
set_option linter.unusedSimpArgs false
theorem wrap_s (m : Nat) (h : m ≤ 4096) : wrap64 ((m : Int) + 1) = ((m + 1 : Nat) : Int) := wrap_nat m 5000 (by omega) (by omega)
theorem pcN_zero (f : Nat) : pcN f 0 = 0 := by
  induction f with
  | zero => rfl
  | succ f ih => rw [pcN, Nat.zero_div, ih]
theorem leftR_count (l : List Int) : ∀ (f s : Nat), l.length ≤ f → s < 2 ^ l.length → (leftR l s).length = pcN f s := by
  induction l with
  | nil =>
    intro f s _ hs
    obtain rfl : s = 0 := by simp at hs; omega
    rw [pcN_zero]; rfl
  | cons r l ih =>
    intro f s hf hs
    obtain ⟨f, rfl⟩ : ∃ q, f = q + 1 := ⟨f - 1, by simp at hf; omega⟩
    rw [List.length_cons, Nat.pow_succ] at hs
    have e := ih f (s / 2) (by simpa using hf) (by omega)
    rw [leftR, pcN, ← e]
    split
    · rw [List.length_cons]; omega
    · omega
/-- the greatest count of a home set -/
def mostN (n : Nat) (l : List Int) : Nat → Nat
  | 0 => 0
  | s + 1 => if homeB n (leftR l s) = true then max (mostN n l s) (leftR l s).length else mostN n l s
theorem mostN_le (n : Nat) (l : List Int) (s : Nat) : mostN n l s ≤ l.length := by
  induction s with
  | zero => exact Nat.zero_le _
  | succ s ih =>
    rw [mostN]
    have := leftR_length l s
    split
    · exact Nat.max_le.2 ⟨ih, this⟩
    · exact ih
theorem most_spec (n : Nat) (hn : n ≤ 8) (l : List Int) (hl : l.length ≤ 12) : Ev (fun k => spec_LeastTakes.l0 k 0 0 (n : Int) l) (((l.length : Int) - ((mostN n l (2 ^ l.length) : Nat) : Int)), true) := by
  have hpow := pow_12 l.length hl
  have key := Ev.inv (σ := Int) (L := fun k j s => spec_LeastTakes.l0 k s (j : Int) (n : Int) l) (r := (((l.length : Int) - ((mostN n l (2 ^ l.length) : Nat) : Int)), true)) (n := 2 ^ l.length)
    (Inv := fun j s => s = ((mostN n l j : Nat) : Int))
    (fun s hs => by
      subst hs
      refine Ev.succ (Ev.ret fun k => ?_)
      have := mostN_le n l (2 ^ l.length)
      rw [spec_LeastTakes.l0, shl_one l.length (by omega), if_neg (by omega), wrap_in (by omega) (by omega)])
    (fun j s hj hs ih => by
      subst hs
      refine Ev.succ ?_
      have g1 : (j : Int) < ((2 ^ l.length : Nat) : Int) := Int.ofNat_lt.2 hj
      have gj := wrap_s j (by omega)
      have hll := leftR_length l j
      simp only [spec_LeastTakes.l0, shl_one l.length (by omega), g1, if_true, gj]
      refine Ev.bind (gaLeft_ev (n : Int) l (by omega) j) ?_
      refine Ev.bind (gaHome_ev n _ hn (by omega)) ?_
      refine Ev.iteb (fun c => ?_) (fun c => ?_)
      · have e : spec_l1Most.f ((mostN n l j : Nat) : Int) ((leftR l j).length : Int) = some ((mostN n l (j + 1) : Nat) : Int) := by
          unfold spec_l1Most.f
          rw [mostN, if_pos c]
          split
          · congr 1; omega
          · congr 1; omega
        simp only [e, Option.bind_some]
        exact ih _ rfl
      · exact ih _ (by rw [mostN, if_neg (by simp [c])]))
  exact key 0 0 (Nat.zero_le _) rfl
theorem mostH_ev (n : Nat) (hn : n ≤ 8) (l : List Int) (hl : l.length ≤ 12) : ∀ s, s ≤ 2 ^ l.length → Ev (fun k => mostH k (n : Int) l s) ((mostN n l s : Nat) : Int) := by
  intro s
  induction s with
  | zero => intro _; exact Ev.now _
  | succ s ih =>
    intro hs
    have hpow := pow_12 l.length hl
    have hll := leftR_length l s
    refine Ev.bind (ih (by omega)) ?_
    refine Ev.bind (isHomely_ev n _ hn (by omega)) ?_
    refine Ev.iteb (fun c => ?_) (fun c => ?_)
    · have e : impl_bits1.f (s : Int) = some (((leftR l s).length : Nat) : Int) := by
        have g : 0 ≤ (s : Int) ∧ (s : Int) < 4096 := ⟨by omega, by omega⟩
        unfold impl_bits1.f bits_OnesCount.f
        rw [if_pos g, leftR_count l 12 s hl (by omega)]
        rfl
      simp only [e, Option.bind_some]
      refine Ev.eq (Ev.now _) ?_
      rw [mostN, if_pos c]
      unfold mx
      split <;> omega
    · exact Ev.eq (Ev.now _) (by rw [mostN, if_neg (by simp [c])])
theorem LeastTakes_both (a : Int) (l : List Int) : ∃ r, Ev (fun k => spec_LeastTakes.f k a l) r ∧ Ev (fun k => impl_LeastTakes.f k a l) r := by
  unfold spec_LeastTakes.f impl_LeastTakes.f
  by_cases h : takingB a l = true
  · obtain ⟨n, rfl, h1, h2, h3, h4, h5⟩ := takingB_in h
    refine ⟨(((l.length : Int) - ((mostN n l (2 ^ l.length) : Nat) : Int)), true), ?_, ?_⟩
    · refine Ev.bind (gaTaking_ev _ l) ?_
      simp only [h, if_true]
      exact most_spec n h2 l h3
    · refine Ev.bind (isTaking_ev _ l) ?_
      have g : l.length ≤ 20 := by omega
      have hm := mostN_le n l (2 ^ l.length)
      simp only [h, g, if_true]
      refine Ev.bind (mostH_ev n h2 l h3 _ (Nat.le_refl _)) ?_
      rw [wrap_in (by omega) (by omega)]
      exact Ev.now _
  · have h' : takingB a l = false := by simpa using h
    refine ⟨(0, false), ?_, ?_⟩
    · refine Ev.bind (gaTaking_ev _ l) ?_
      simp only [h', Bool.false_eq_true, if_false]; exact Ev.now _
    · refine Ev.bind (isTaking_ev _ l) ?_
      simp only [h', Bool.false_eq_true, if_false]; exact Ev.now _
theorem FnExactLeastTakes : ∀ (a0_0 : Int) (l0_1 : List Int), (Lit.int .i64 a0_0).wf = true → l0_1.length ≤ maxLen → (∀ x ∈ l0_1, (Lit.int .i64 x).wf = true) → ∃ k, laws_FnExactLeastTakes.f k a0_0 l0_1 = some true := by
  intro a l _ hm _
  unfold maxLen at hm
  refine Ev.rounds ?_
  unfold laws_FnExactLeastTakes.f
  simp only [szLadder_f a l hm, Option.bind_some]
  by_cases hl : l.length ≤ 1048576
  · have h2 : ¬ (1048576 - (l.length : Int)) < 0 := by omega
    have hneg := h2
    obtain ⟨r, hs, hi⟩ := LeastTakes_both a l
    simp only [hl, if_true, h2, if_false]
    repeat' (first
      | exact Ev.now _
      | ((with_reducible refine Ev.bind hs ?_); try dsimp only)
      | ((with_reducible refine Ev.bind hi ?_); try dsimp only)
      | ((with_reducible refine Ev.bind (toLadder_ev _ _ (by omega)) ?_); try dsimp only)
      | ((with_reducible refine Ev.bind (toIntS_ev _ (by omega)) ?_); try dsimp only)
      | ((with_reducible refine Ev.bind (eqLadder_refl _ _ (by omega)) ?_); try dsimp only)
      | ((with_reducible refine Ev.bind (eqIntS_refl _ (by omega)) ?_); try dsimp only)
      | ((with_reducible refine Ev.bind (markLadder_ev _ _ _ (by omega)) ?_); try dsimp only)
      | ((with_reducible refine Ev.bind (markIntS_ev _ _ (by omega)) ?_); try dsimp only)
      | ((with_reducible refine Ev.bind (heldLadder_ev _ _ _ (by omega) (by omega)) ?_); try dsimp only)
      | ((with_reducible refine Ev.bind (heldIntS_ev _ _ (by omega)) ?_); try dsimp only)
      | simp only [if_true, if_false, bne_self_eq_false, Bool.false_eq_true, eq_self, Option.bind_some, hneg]
      )
  · simp only [hl, if_false]
    simpa using Ev.now _
end Go.Proofs.Ytnmhokkkjpjmeaa.Q
