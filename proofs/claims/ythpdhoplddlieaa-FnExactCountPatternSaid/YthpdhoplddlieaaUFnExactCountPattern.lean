/- The pure statement of FnExactCountPattern: the program's CountPattern and the reference's give the same. Conditions: none beyond the law's own. -/
import Derived.Test.YthpdhoplddlieaaB25
import Derived.Test.YthpdhoplddlieaaQsubs
import Derived.Test.YthpdhoplddlieaaQlsLess
import Derived.Test.YthpdhoplddlieaaQmrPattern
import Derived.Test.YthpdhoplddlieaaQpatternI
import Derived.Test.YthpdhoplddlieaaQEqual
import Derived.Test.YthpdhoplddlieaaQlaOrder
import Derived.Test.YthpdhoplddlieaaQisOrder
import Derived.Test.YthpdhoplddlieaaQtoIntS
import Derived.Test.YthpdhoplddlieaaQeqIntS
namespace Go.Proofs.Ythpdhoplddlieaa.Q
open Go.RowKit Go.Proofs.Ythpdhoplddlieaa.B Go.Proofs.YthpdhoplddlieaaW.PrintWords Go.Proofs.YthpdhoplddlieaaW.PrintLast Go.Proofs.YthpdhoplddlieaaW.PrintMore
set_option linter.unusedVariables false
set_option linter.unusedSimpArgs false
def hits (p q : List Int) (l : List Int) : Bool := decide (patL p l = q)
theorem shl_one : ∀ n : Nat, n ≤ 8 → shl .i64 1 (n : Int) = ((2 ^ n : Nat) : Int) := by decide +kernel
theorem pow_small (n : Nat) (h : n ≤ 8) : 2 ^ n ≤ 256 := Nat.pow_le_pow_right (n := 2) (by omega) h
theorem shr_bit (s j : Nat) (h : j ≤ 8) : Int.tmod (shr .i64 (s : Int) (j : Int)) 2 = ((s / 2 ^ j % 2 : Nat) : Int) := by
  have e : shr .i64 (s : Int) (j : Int) = ((s / 2 ^ j : Nat) : Int) := by
    unfold shr
    rw [show min ((j : Int)).toNat (IntKind.i64).bits = j from by show min j 64 = j; omega]
    push_cast; rfl
  rw [e]
  generalize s / 2 ^ j = m
  rw [Int.tmod_eq_emod_of_nonneg (by omega)]
  omega
theorem wrap_small (m : Nat) (h : m ≤ 256) : wrap64 ((m : Int) + 1) = ((m + 1 : Nat) : Int) := wrap_nat m 257 (by omega) (by omega)
theorem count_spec (p q : List Int) (hp : p.length ≤ 8) (hq : q.length ≤ 8) : Ev (fun k => spec_CountPattern.l0 k p q 0 0) (((cs p.length (hits p q) : Nat) : Int), true) := by
  have hpow := pow_small p.length hp
  rw [← cs_spec p.length (hits p q)]
  have key := Ev.inv (σ := Int) (L := fun k j s => spec_CountPattern.l0 k p q s (j : Int)) (r := (((sm (fun s => b2n (hits p q (spTo s p.length))) (2 ^ p.length) : Nat) : Int), true)) (n := 2 ^ p.length)
    (Inv := fun j s => s = ((sm (fun s => b2n (hits p q (spTo s p.length))) j : Nat) : Int))
    (fun s hs => by
      subst hs
      refine Ev.succ (Ev.ret fun k => ?_)
      rw [spec_CountPattern.l0, shl_one p.length hp, if_neg (by omega)])
    (fun j s hj hs ih => by
      subst hs
      refine Ev.succ ?_
      have g1 : (j : Int) < ((2 ^ p.length : Nat) : Int) := Int.ofNat_lt.2 hj
      have hle := sm_le (fun s => b2n (hits p q (spTo s p.length))) (fun _ => b2n_le _) j
      have gw := wrap_small (sm (fun s => b2n (hits p q (spTo s p.length))) j) (by omega)
      have gj := wrap_small j (by omega)
      have esm : sm (fun s => b2n (hits p q (spTo s p.length))) (j + 1) = sm (fun s => b2n (hits p q (spTo s p.length))) j + b2n (hits p q (spTo j p.length)) := rfl
      simp only [spec_CountPattern.l0, shl_one p.length hp, g1, if_true]
      have key2 := Ev.inv (σ := List Int) (L := fun k i a => spec_CountPattern.l1 k p q ((sm (fun s => b2n (hits p q (spTo s p.length))) j : Nat) : Int) (j : Int) a (p.length : Int) (i : Int)) (r := (((sm (fun s => b2n (hits p q (spTo s p.length))) (2 ^ p.length) : Nat) : Int), true)) (n := p.length)
        (Inv := fun i a => a = spTo j i)
        (fun a ha => by
          subst ha
          refine Ev.succ ?_
          have h1 : ¬ (p.length : Int) < (p.length : Int) := by omega
          have hl := spTo_length j p.length
          simp only [spec_CountPattern.l1, h1, if_false, gw, gj]
          have hpl : (patL p (spTo j p.length)).length = (spTo j p.length).length := by simp [patL]
          refine Ev.ite (fun c => ?_) (fun c => ?_)
          · refine Ev.bind (mrPattern_ev p _ (by omega) (spTo_mem j p.length)) ?_
            refine Ev.bind (lsSame_ev _ q (by omega) (by omega)) ?_
            refine Ev.iteb (fun c2 => ?_) (fun c2 => ?_)
            · refine ih _ ?_
              rw [esm, show hits p q (spTo j p.length) = true from c2]; rfl
            · refine ih _ ?_
              rw [esm, show hits p q (spTo j p.length) = false from c2]; rfl
          · refine ih _ ?_
            have : hits p q (spTo j p.length) = false := decide_eq_false (fun e => c (by rw [← e, hpl]))
            rw [esm, this]; rfl)
        (fun i a hi ha ih2 => by
          subst ha
          refine Ev.succ ?_
          have h1 : (i : Int) < (p.length : Int) := by omega
          have h0 : (0 : Int) ≤ (i : Int) := by omega
          have hl := spTo_length j i
          have h3 : (spTo j i).length < 17592186044416 := by omega
          simp only [spec_CountPattern.l1, h1, h0, h3, if_true, shr_bit j i (by omega), wrap_nat i p.length hi (by omega)]
          refine Ev.ite (fun c => ?_) (fun c => ?_)
          · exact ih2 _ (by rw [spTo, if_pos (by omega)])
          · exact ih2 _ (by rw [spTo, if_neg (by omega)]))
      exact key2 0 [] (Nat.zero_le _) rfl)
  exact key 0 0 (Nat.zero_le _) rfl
theorem cpTo_ev (p q : List Int) (hp : p.length ≤ 8) : ∀ s, s ≤ 256 → Ev (fun k => cpTo k p q p.length s) ((sm (fun s => b2n (hits p q (ones (bitL p.length s) 0))) s : Nat) : Int) := by
  intro s
  induction s with
  | zero => intro _; exact Ev.now _
  | succ s ih =>
    intro hs
    have hl := ones_length (bitL p.length s) 0
    rw [bitL_length] at hl
    have hle := sm_le (fun s => b2n (hits p q (ones (bitL p.length s) 0))) (fun _ => b2n_le _) s
    have gw := wrap_small (sm (fun s => b2n (hits p q (ones (bitL p.length s) 0))) s) (by omega)
    have esm : sm (fun s => b2n (hits p q (ones (bitL p.length s) 0))) (s + 1) = sm (fun s => b2n (hits p q (ones (bitL p.length s) 0))) s + b2n (hits p q (ones (bitL p.length s) 0)) := rfl
    refine Ev.bind (ih (by omega)) ?_
    refine Ev.bind (patternI_ev p _ (by omega) (fun x hx => by have := ones_mem _ 0 x hx; rw [bitL_length] at this; omega)) ?_
    refine Ev.bind (Equal_ev _ q (by simp [patL]; omega)) ?_
    refine Ev.eq (Ev.now _) ?_
    rw [esm, gw]
    cases c : hits p q (ones (bitL p.length s) 0) with
    | true => rw [if_pos (show decide (patL p (ones (bitL p.length s) 0) = q) = true from c)]; rfl
    | false => rw [if_neg (by rw [show decide (patL p (ones (bitL p.length s) 0) = q) = false from c]; simp)]; rfl
theorem CountPattern_both (p q : List Int) : ∃ r, Ev (fun k => spec_CountPattern.f k p q) r ∧ Ev (fun k => impl_CountPattern.f k p q) r := by
  unfold spec_CountPattern.f impl_CountPattern.f
  by_cases h1 : orderB p = true
  · by_cases h2 : orderB q = true
    · have hp := ((orderB_iff p).1 h1).1
      have hq := ((orderB_iff q).1 h2).1
      refine ⟨(((cs p.length (hits p q) : Nat) : Int), true), ?_, ?_⟩
      · refine Ev.bind (laOrder_ev p) ?_
        simp only [h1, if_true]
        refine Ev.bind (laOrder_ev q) ?_
        refine Ev.succ ?_
        simp only [spec_CountPattern.j0, h2, Bool.not_true, Bool.false_eq_true, if_false]
        exact count_spec p q hp.2 hq.2
      · refine Ev.bind (isOrder_ev p) ?_
        simp only [h1, if_true]
        refine Ev.bind (isOrder_ev q) ?_
        have g : p.length ≤ 20 := by omega
        simp only [h2, if_true, g]
        have := cpTo_ev p q hp.2 (2 ^ p.length) (pow_small _ hp.2)
        rw [cs_impl] at this
        exact Ev.bind this (Ev.now _)
    · have h2' : orderB q = false := by simpa using h2
      refine ⟨(0, false), ?_, ?_⟩
      · refine Ev.bind (laOrder_ev p) ?_
        simp only [h1, if_true]
        refine Ev.bind (laOrder_ev q) ?_
        refine Ev.succ ?_
        simp only [spec_CountPattern.j0, h2', Bool.not_false, if_true]
        exact Ev.now _
      · refine Ev.bind (isOrder_ev p) ?_
        simp only [h1, if_true]
        refine Ev.bind (isOrder_ev q) ?_
        simp only [h2', Bool.false_eq_true, if_false]
        exact Ev.now _
  · have h1' : orderB p = false := by simpa using h1
    refine ⟨(0, false), ?_, ?_⟩
    · refine Ev.bind (laOrder_ev p) ?_
      simp only [h1', Bool.false_eq_true, if_false]
      refine Ev.succ ?_
      simp only [spec_CountPattern.j0, if_true]
      exact Ev.now _
    · refine Ev.bind (isOrder_ev p) ?_
      simp only [h1', Bool.false_eq_true, if_false]
      exact Ev.now _
theorem FnExactCountPattern : ∀ (l0 : List Int) (l1 : List Int), l0.length ≤ maxLen → (∀ x ∈ l0, (Lit.int .i64 x).wf = true) → l1.length ≤ maxLen → (∀ x ∈ l1, (Lit.int .i64 x).wf = true) → ∃ k, laws_FnExactCountPattern.f k l0 l1 = some true := by
  intro p l _ _ _ _
  refine Ev.rounds ?_
  unfold laws_FnExactCountPattern.f
  by_cases hp : (p.length : Int) > 1048576
  · simp only [hp, if_true]; exact Ev.now _
  · by_cases hl : (l.length : Int) > 1048576
    · simp only [hp, hl, if_true, if_false]; exact Ev.now _
    · simp only [hp, hl, if_false]
      obtain ⟨r, hs, hi⟩ := CountPattern_both p l
      have hneg : ¬ (1 : Int) < 0 := by omega
      repeat' (first
        | exact Ev.now _
        | ((with_reducible refine Ev.bind hs ?_); try dsimp only)
        | ((with_reducible refine Ev.bind hi ?_); try dsimp only)
        | ((with_reducible refine Ev.bind (toLadder_ev _ _ (by omega)) ?_); try dsimp only)
        | ((with_reducible refine Ev.bind (toIntS_ev _ (by omega)) ?_); try dsimp only)
        | ((with_reducible refine Ev.bind (eqLadder_refl _ _ (by omega)) ?_); try dsimp only)
        | ((with_reducible refine Ev.bind (eqIntS_refl _ (by omega)) ?_); try dsimp only)
        | ((with_reducible refine Ev.bind (markLadder_ev _ _ _ (by omega)) ?_); try dsimp only)
        | ((with_reducible refine Ev.bind (markIntS_ev _ _ (by omega)) ?_); try dsimp only)
        | ((with_reducible refine Ev.bind (heldLadder_ev _ _ _ (by omega) (by omega)) ?_); try dsimp only)
        | ((with_reducible refine Ev.bind (heldIntS_ev _ _ (by omega)) ?_); try dsimp only)
        | simp only [if_true, if_false, bne_self_eq_false, Bool.false_eq_true, eq_self, Option.bind_some, hneg]
        )
end Go.Proofs.Ythpdhoplddlieaa.Q
