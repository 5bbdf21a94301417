/- The pure statement of FnExactPlayTakes: the program's PlayTakes and the reference's give the same. Conditions: none beyond the law's own. -/
import Derived.Test.YtnmhokkkjpjmeaaB1
import Derived.Test.YtnmhokkkjpjmeaaB3
import Derived.Test.YtnmhokkkjpjmeaaB4
import Derived.Test.YtnmhokkkjpjmeaaQtaking
import Derived.Test.YtnmhokkkjpjmeaaQgaLeft
import Derived.Test.YtnmhokkkjpjmeaaQisHomely
import Derived.Test.YtnmhokkkjpjmeaaQl1In
import Derived.Test.YtnmhokkkjpjmeaaQtoLadder
import Derived.Test.YtnmhokkkjpjmeaaQeqLadder
import Derived.Test.YtnmhokkkjpjmeaaQszLadder
import Derived.Test.YtnmhokkkjpjmeaaQmarkLadder
import Derived.Test.YtnmhokkkjpjmeaaQtoIntS
import Derived.Test.YtnmhokkkjpjmeaaQeqIntS
import Derived.Test.YtnmhokkkjpjmeaaQmark
namespace Go.Proofs.Ytnmhokkkjpjmeaa.Q
open Go.RowKit Go.Proofs.Ytnmhokkkjpjmeaa.B Go.Proofs.YtnmhokkkjpjmeaaW.PrintWords Go.Proofs.YtnmhokkkjpjmeaaW.PrintLast Go.Proofs.YtnmhokkkjpjmeaaW.PrintMore
set_option linter.unusedVariables false
set_option linter.unusedSimpArgs false
/-- the set that is left after the takes, none where a take is not allowed -/
def playP (n : Nat) (l : List Int) : List Int → Nat → Option Nat
  | [], s => some s
  | t :: ts, s => if inB t 0 ((l.length : Int) - 1) = true then (if s / 2 ^ t.toNat % 2 = 0 then none else if homeB n (leftR l s) = true then none else playP n l ts (s - 2 ^ t.toNat)) else none
theorem playGo_ev (n : Nat) (hn : n ≤ 8) (l : List Int) (hl : l.length ≤ 12) : ∀ (ts : List Int) (s : Nat), Ev (fun k => playGo k (n : Int) l ts s) (playP n l ts s) := by
  intro ts
  induction ts with
  | nil => intro s; exact Ev.ret fun k => rfl
  | cons t ts ih =>
    intro s
    simp only [playGo, playP]
    by_cases h : inB t 0 ((l.length : Int) - 1) = true
    · simp only [h, if_true]
      by_cases h2 : s / 2 ^ t.toNat % 2 = 0
      · simp only [h2, if_true]; exact Ev.now _
      · simp only [h2, if_false]
        have := leftR_length l s
        refine Ev.bind (isHomely_ev n _ hn (by omega)) ?_
        refine Ev.iteb (fun c => ?_) (fun c => ?_)
        · rw [if_pos c]; exact Ev.now _
        · rw [if_neg (by simp [c])]; exact ih _
    · have h' : inB t 0 ((l.length : Int) - 1) = false := by simpa using h
      simp only [h', Bool.false_eq_true, if_false]; exact Ev.now _
theorem leftR_clear (l : List Int) : ∀ (t s : Nat), t < l.length → ¬ s / 2 ^ t % 2 = 0 → (leftR l (s - 2 ^ t)).length + 1 = (leftR l s).length := by
  induction l with
  | nil => intro t s h; simp at h
  | cons r l ih =>
    intro t s ht hs
    cases t with
    | zero =>
      rw [Nat.pow_zero, Nat.div_one] at hs
      rw [Nat.pow_zero, leftR, leftR, if_neg (by omega), if_pos (by omega), show (s - 1) / 2 = s / 2 by omega]
      rfl
    | succ t =>
      have e1 : s / 2 ^ (t + 1) = s / 2 / 2 ^ t := by rw [Nat.pow_succ, Nat.mul_comm, Nat.div_div_eq_div_mul]
      rw [e1] at hs
      have e2 := ih t (s / 2) (by simpa using ht) hs
      have e3 : (s - 2 ^ (t + 1)) / 2 = s / 2 - 2 ^ t := by rw [Nat.pow_succ]; omega
      have hge : 2 ^ t ≤ s / 2 := by
        rcases Nat.lt_or_ge (s / 2) (2 ^ t) with h | h
        · rw [Nat.div_eq_of_lt h] at hs; exact absurd rfl hs
        · exact h
      have e4 : (s - 2 ^ (t + 1)) % 2 = s % 2 := by rw [Nat.pow_succ]; omega
      rw [leftR, leftR, e3, e4]
      split
      · rw [List.length_cons, List.length_cons, e2]
      · exact e2
theorem playP_len (n : Nat) (l : List Int) : ∀ (ts : List Int) (s r : Nat), playP n l ts s = some r → ts.length ≤ (leftR l s).length := by
  intro ts
  induction ts with
  | nil => intro s r _; exact Nat.zero_le _
  | cons t ts ih =>
    intro s r h
    rw [playP] at h
    split at h
    · rename_i h1
      rw [inB_iff] at h1
      split at h
      · exact absurd h (by simp)
      · rename_i h2
        split at h
        · exact absurd h (by simp)
        · have e := ih _ r h
          have := leftR_clear l t.toNat s (by omega) h2
          rw [List.length_cons]; omega
    · exact absurd h (by simp)
theorem clr_all : (List.range 12).all (fun t => (List.range 4096).all (fun s => s / 2 ^ t % 2 == 0 || decide (Go.bits .andNot .i64 (s : Int) (shl .i64 1 (t : Int)) = ((s - 2 ^ t : Nat) : Int)))) = true := by decide +kernel
theorem clr_at (s t : Nat) (hs : s < 4096) (ht : t < 12) (h : ¬ s / 2 ^ t % 2 = 0) : Go.bits .andNot .i64 (s : Int) (shl .i64 1 (t : Int)) = ((s - 2 ^ t : Nat) : Int) := by
  have h1 := List.all_eq_true.1 (List.all_eq_true.1 clr_all t (by simpa using ht)) s (by simpa using hs)
  rw [Bool.or_eq_true] at h1
  rcases h1 with h1 | h1
  · exact absurd (by simpa using h1) h
  · exact of_decide_eq_true h1
theorem play_spec (n : Nat) (hn : n ≤ 8) (l : List Int) (hl : l.length ≤ 12) (ts : List Int) (hts : ts.length ≤ 1048576) : ∀ (d i s : Nat), i ≤ ts.length → ts.length - i = d → s < 4096 → Ev (fun k => spec_PlayTakes.l0 k (s : Int) ts (ts.length : Int) (i : Int) (n : Int) l) (playEnd (n : Int) l (playP n l (ts.drop i) s)) := by
  intro d
  induction d with
  | zero =>
    intro i s hi hd _
    obtain rfl : i = ts.length := by omega
    refine Ev.succ ?_
    have g : ¬ ((ts.length : Nat) : Int) < (ts.length : Int) := by omega
    simp only [spec_PlayTakes.l0, g, if_false]
    refine Ev.bind (gaLeft_ev (n : Int) l (by omega) s) ?_
    rw [List.drop_length]
    exact Ev.now _
  | succ d ih =>
    intro i s hi hd hs
    have hlt : i < ts.length := by omega
    have g1 : (i : Int) < (ts.length : Int) := by omega
    have g0 : (0 : Int) ≤ (i : Int) := by omega
    have gi := wrap_nat i ts.length hlt (by omega)
    have gl : wrap64 ((l.length : Int) - 1) = (l.length : Int) - 1 := wrap_in (by omega) (by omega)
    refine Ev.succ ?_
    rw [List.drop_eq_getElem_cons hlt, playP]
    simp only [spec_PlayTakes.l0, g1, g0, if_true, rd_nat ts i hlt, gl, l1In_f, Option.bind_some, gi]
    generalize ts[i] = t
    by_cases h : inB t 0 ((l.length : Int) - 1) = true
    · have hb := (inB_iff _ _ _).1 h
      obtain ⟨m, rfl⟩ : ∃ m : Nat, t = m := ⟨t.toNat, by omega⟩
      have gm : (0 : Int) ≤ (m : Int) := by omega
      simp only [h, if_true, gm, shr_bit s m (by omega), Int.toNat_natCast]
      have := leftR_length l s
      by_cases h2 : s / 2 ^ m % 2 = 0
      · have h2' : ((s / 2 ^ m % 2 : Nat) : Int) = 0 := by rw [h2]; rfl
        simp only [h2', h2, if_true]; exact Ev.now _
      · have h2' : ¬ ((s / 2 ^ m % 2 : Nat) : Int) = 0 := fun e => h2 (by exact_mod_cast e)
        simp only [h2', h2, if_false, clr_at s m hs (by omega) h2]
        refine Ev.bind (gaLeft_ev (n : Int) l (by omega) s) ?_
        refine Ev.bind (gaHome_ev n _ hn (by omega)) ?_
        refine Ev.iteb (fun c => ?_) (fun c => ?_)
        · rw [if_pos c]; exact Ev.now _
        · rw [if_neg (by simp [c])]
          exact ih (i + 1) _ (by omega) (by omega) (Nat.lt_of_le_of_lt (Nat.sub_le _ _) hs)
    · have h' : inB t 0 ((l.length : Int) - 1) = false := by simpa using h
      simp only [h', Bool.false_eq_true, if_false]; exact Ev.now _
theorem PlayTakes_both (a : Int) (l ts : List Int) (hts : ts.length ≤ 1048576) : ∃ r, Ev (fun k => spec_PlayTakes.f k a l ts) r ∧ Ev (fun k => impl_PlayTakes.f k a l ts) r ∧ r.2.1.length ≤ 12 := by
  have fs : Ev (fun k => spec_PlayTakes.j0 k ts true a l) (0, [], false) := Ev.succ (Ev.ret fun k => by rw [spec_PlayTakes.j0]; rfl)
  cases h : takingB a l with
  | false =>
    refine ⟨(0, [], false), ?_, ?_, by simp⟩
    · unfold spec_PlayTakes.f
      refine Ev.bind (gaTaking_ev a l) ?_
      simp only [h, Bool.false_eq_true, if_false]; exact fs
    · unfold impl_PlayTakes.f
      refine Ev.bind (isTaking_ev a l) ?_
      simp only [h, Bool.false_eq_true, if_false]; exact Ev.now _
  | true =>
    obtain ⟨n, rfl, _, hn, hl, _, _⟩ := takingB_in h
    have hpow := pow_12 l.length hl
    have hpos : 1 ≤ 2 ^ l.length := Nat.one_le_two_pow
    refine ⟨playEnd (n : Int) l (playP n l ts (2 ^ l.length - 1)), ?_, ?_, ?_⟩
    · unfold spec_PlayTakes.f
      refine Ev.bind (gaTaking_ev (n : Int) l) ?_
      simp only [h, if_true]
      by_cases hlen : (ts.length : Int) > (l.length : Int)
      · have e : playP n l ts (2 ^ l.length - 1) = none := by
          cases hp : playP n l ts (2 ^ l.length - 1) with
          | none => rfl
          | some r =>
            have h1 := playP_len n l ts _ r hp
            have h2 := leftR_length l (2 ^ l.length - 1)
            omega
        rw [decide_eq_true hlen, e]
        exact fs
      · rw [decide_eq_false hlen]
        refine Ev.succ ?_
        have e : wrap64 (((2 ^ l.length : Nat) : Int) - 1) = ((2 ^ l.length - 1 : Nat) : Int) := by rw [wrap_in (by omega) (by omega)]; omega
        simp only [spec_PlayTakes.j0, Bool.false_eq_true, if_false, shl_one l.length (by omega), e]
        exact play_spec n hn l hl ts hts ts.length 0 _ (Nat.zero_le _) (by omega) (by omega)
    · unfold impl_PlayTakes.f
      refine Ev.bind (isTaking_ev (n : Int) l) ?_
      simp only [h, if_true]
      exact Ev.bind (playGo_ev n hn l hl ts _) (Ev.now _)
    · cases playP n l ts (2 ^ l.length - 1) with
      | none => exact Nat.zero_le _
      | some s => exact Nat.le_trans (leftR_length l s) hl
theorem FnExactPlayTakes : ∀ (a0_0 : Int) (l0_1 : List Int) (l1 : List Int), (Lit.int .i64 a0_0).wf = true → l0_1.length ≤ maxLen → (∀ x ∈ l0_1, (Lit.int .i64 x).wf = true) → l1.length ≤ maxLen → (∀ x ∈ l1, (Lit.int .i64 x).wf = true) → ∃ k, laws_FnExactPlayTakes.f k a0_0 l0_1 l1 = some true := by
  intro a l s _ hm _ hms _
  unfold maxLen at hm hms
  refine Ev.rounds ?_
  unfold laws_FnExactPlayTakes.f
  simp only [szLadder_f a l hm, Option.bind_some]
  by_cases hs1 : (s.length : Int) > 1048576
  · simp only [hs1, if_true]; exact Ev.now _
  · by_cases hl : l.length ≤ 1048576
    · have h2 : ¬ (1048576 - (l.length : Int)) < 0 := by omega
      obtain ⟨r, hs, hi, hr⟩ := PlayTakes_both a l s (by omega)
      have hneg : ¬ markEnd 1 r.2.1.length < 0 := by have := markEnd_eq r.2.1.length 1 (by omega) (by omega); omega
      have hneg2 : ¬ markEnd (markEnd 1 l.length) s.length < 0 := by
        have := markEnd_eq l.length 1 (by omega) (by omega)
        have := markEnd_eq s.length (markEnd 1 l.length) (by omega) (by omega)
        omega
      simp only [hs1, hl, if_true, h2, if_false]
      repeat' (first
        | exact Ev.now _
        | ((with_reducible refine Ev.bind hs ?_); try dsimp only)
        | ((with_reducible refine Ev.bind hi ?_); try dsimp only)
        | ((with_reducible refine Ev.bind (toLadder_ev _ _ (by omega)) ?_); try dsimp only)
        | ((with_reducible refine Ev.bind (toIntS_ev _ (by omega)) ?_); try dsimp only)
        | ((with_reducible refine Ev.bind (eqLadder_refl _ _ (by omega)) ?_); try dsimp only)
        | ((with_reducible refine Ev.bind (eqIntS_refl _ (by omega)) ?_); try dsimp only)
        | ((with_reducible refine Ev.bind (markLadder_ev _ _ _ (by omega)) ?_); try dsimp only)
        | ((with_reducible refine Ev.bind (markIntS_ev _ _ (by omega)) ?_); try dsimp only)
        | ((with_reducible refine Ev.bind (heldLadder_ev _ _ _ (by omega) (by omega)) ?_); try dsimp only)
        | ((with_reducible refine Ev.bind (heldIntS_ev _ _ (by omega)) ?_); try dsimp only)
        | simp only [if_true, if_false, bne_self_eq_false, Bool.false_eq_true, eq_self, Option.bind_some, hneg, hneg2]
        )
    · simp only [hs1, hl, if_false]
      simpa using Ev.now _
end Go.Proofs.Ytnmhokkkjpjmeaa.Q
