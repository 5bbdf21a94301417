/- The taking game worked out: what the reference's lists hold, and that the program's best play is told by them. No program, no memory. -/
import Derived.Test.YtnmhokkkjpjmeaaB1
import Derived.Test.YtnmhokkkjpjmeaaB7
import Derived.Test.YtnmhokkkjpjmeaaB12
import Derived.Test.YtnmhokkkjpjmeaaQtaking
import Derived.Test.YtnmhokkkjpjmeaaQgaLeft
import Derived.Test.YtnmhokkkjpjmeaaQisHomely
import Derived.Test.YtnmhokkkjpjmeaaQgaHome
namespace Go.Proofs.Ytnmhokkkjpjmeaa.Q
open Go.RowKit Go.Proofs.Ytnmhokkkjpjmeaa.B Go.Proofs.YtnmhokkkjpjmeaaW.PrintWords Go.Proofs.YtnmhokkkjpjmeaaW.PrintLast Go.Proofs.YtnmhokkkjpjmeaaW.PrintMore
set_option linter.unusedVariables false
set_option linter.unusedSimpArgs false
theorem leftR_clr (l : List Int) : ∀ (t s : Nat), t < l.length → ¬ s / 2 ^ t % 2 = 0 → (leftR l (s - 2 ^ t)).length + 1 = (leftR l s).length := by
  induction l with
  | nil => intro t s h; simp at h
  | cons r l ih =>
    intro t s ht hs
    cases t with
    | zero =>
      rw [Nat.pow_zero, Nat.div_one] at hs
      rw [Nat.pow_zero, leftR, leftR, if_neg (by omega), if_pos (by omega), show (s - 1) / 2 = s / 2 by omega]
      rfl
    | succ t =>
      have e1 : s / 2 ^ (t + 1) = s / 2 / 2 ^ t := by rw [Nat.pow_succ, Nat.mul_comm, Nat.div_div_eq_div_mul]
      rw [e1] at hs
      have e2 := ih t (s / 2) (by simpa using ht) hs
      have e3 : (s - 2 ^ (t + 1)) / 2 = s / 2 - 2 ^ t := by rw [Nat.pow_succ]; omega
      have hge : 2 ^ t ≤ s / 2 := by
        rcases Nat.lt_or_ge (s / 2) (2 ^ t) with h | h
        · rw [Nat.div_eq_of_lt h] at hs; exact absurd rfl hs
        · exact h
      have e4 : (s - 2 ^ (t + 1)) % 2 = s % 2 := by rw [Nat.pow_succ]; omega
      rw [leftR, leftR, e3, e4]
      split
      · rw [List.length_cons, List.length_cons, e2]
      · exact e2
theorem leftR_zero (l : List Int) : leftR l 0 = [] := by
  induction l with
  | nil => rfl
  | cons r l ih => rw [leftR, if_neg (by omega)]; simpa using ih
theorem leftR_full : ∀ (l : List Int), leftR l (2 ^ l.length - 1) = l
  | [] => rfl
  | r :: l => by
    have h1 : 1 ≤ 2 ^ l.length := Nat.one_le_two_pow
    rw [leftR, List.length_cons, Nat.pow_succ, if_pos (by omega), show (2 ^ l.length * 2 - 1) / 2 = 2 ^ l.length - 1 by omega, leftR_full l]
theorem homeB_nil (n : Nat) : homeB n [] = true := by
  unfold homeB
  rw [List.all_eq_true]
  intro i _
  simp [endOf]
theorem bit_le {s i : Nat} (h : ¬ s / 2 ^ i % 2 = 0) : 2 ^ i ≤ s := by
  rcases Nat.lt_or_ge s (2 ^ i) with h1 | h1
  · rw [Nat.div_eq_of_lt h1] at h; exact absurd rfl h
  · exact h1
theorem bit_ex : ∀ (m s : Nat), s < 2 ^ m → s ≠ 0 → ∃ j, j < m ∧ ¬ s / 2 ^ j % 2 = 0
  | 0, s, h, h0 => by simp at h; omega
  | m + 1, s, h, h0 => by
    by_cases h1 : s % 2 = 0
    · obtain ⟨j, hj, hb⟩ := bit_ex m (s / 2) (by rw [Nat.pow_succ] at h; omega) (by omega)
      refine ⟨j + 1, by omega, ?_⟩
      rwa [Nat.pow_succ, Nat.mul_comm, ← Nat.div_div_eq_div_mul]
    · exact ⟨0, by omega, by simpa using h1⟩
/-! The reference's lists. -/
def nwG (H : Nat → Bool) (n : Nat) : Nat → Nat → List Bool → List Int → List Bool × List Int
  | 0, _, hs, ls => (hs, ls)
  | d + 1, s, hs, ls => if H s = true then nwG H n d (s + 1) (hs.set s true) ls else nwG H n d (s + 1) (hs.set s false) (ls.set s (nwEnd (nwIn (hs.set s false) ls s n 0 (0, 0))))
theorem nwGo_ev {hm : Nat → Nat → Option Bool} {H : Nat → Bool} (n : Nat) (h : ∀ s, Ev (fun k => hm k s) (H s)) : ∀ d s hs ls, Ev (fun k => nwGo (hm k) n d s hs ls) (nwG H n d s hs ls)
  | 0, _, _, _ => Ev.now _
  | d + 1, s, hs, ls => by
    simp only [nwGo, nwG]
    refine Ev.bind (h s) ?_
    refine Ev.iteb (fun c => ?_) (fun c => ?_)
    · rw [if_pos c]; exact nwGo_ev n h d _ _ _
    · rw [if_neg (by simp [c])]; exact nwGo_ev n h d _ _ _
theorem nwStep_congr {hs hs' : List Bool} {ls ls' : List Int} {s : Nat} (h : ∀ t, t < s → hs.getD t false = hs'.getD t false ∧ ls.getD t 0 = ls'.getD t 0) (i : Nat) (q : Int × Int) : nwStep hs ls s i q = nwStep hs' ls' s i q := by
  unfold nwStep
  by_cases hb : s / 2 ^ i % 2 = 0
  · rw [if_pos hb, if_pos hb]
  · have h1 := bit_le hb
    have h2 : 1 ≤ 2 ^ i := Nat.one_le_two_pow
    obtain ⟨e1, e2⟩ := h (s - 2 ^ i) (by omega)
    rw [if_neg hb, if_neg hb, e1, e2]
theorem nwIn_congr {hs hs' : List Bool} {ls ls' : List Int} {s : Nat} (h : ∀ t, t < s → hs.getD t false = hs'.getD t false ∧ ls.getD t 0 = ls'.getD t 0) : ∀ (d i : Nat) (q : Int × Int), nwIn hs ls s d i q = nwIn hs' ls' s d i q
  | 0, _, _ => rfl
  | d + 1, i, q => by rw [nwIn, nwIn, nwStep_congr h]; exact nwIn_congr h d _ _
theorem getD_set_self {α : Type} (l : List α) (i : Nat) (x z : α) (h : i < l.length) : (l.set i x).getD i z = x := by
  rw [List.getD_eq_getElem?_getD, List.getElem?_set_self h]; rfl
theorem getD_set_ne {α : Type} (l : List α) (i j : Nat) (x z : α) (h : i ≠ j) : (l.set i x).getD j z = l.getD j z := by
  rw [List.getD_eq_getElem?_getD, List.getElem?_set_ne h, List.getD_eq_getElem?_getD]
/-- what the lists hold at a set -/
def LongOk (H : Nat → Bool) (n : Nat) (hs : List Bool) (ls : List Int) (t : Nat) : Prop := hs.getD t false = H t ∧ ls.getD t 0 = if H t = true then 0 else nwEnd (nwIn hs ls t n 0 (0, 0))
theorem LongOk.congr {H : Nat → Bool} {n : Nat} {hs hs' : List Bool} {ls ls' : List Int} {t : Nat} (h : LongOk H n hs ls t) (hc : ∀ u, u ≤ t → hs'.getD u false = hs.getD u false ∧ ls'.getD u 0 = ls.getD u 0) : LongOk H n hs' ls' t := by
  obtain ⟨h1, h2⟩ := h
  obtain ⟨c1, c2⟩ := hc t (Nat.le_refl _)
  refine ⟨c1.trans h1, ?_⟩
  rw [c2, h2, nwIn_congr (hs := hs') (hs' := hs) (ls := ls') (ls' := ls) (fun u hu => hc u (by omega))]
theorem nwG_spec (H : Nat → Bool) (n N : Nat) : ∀ (d s : Nat) (hs : List Bool) (ls : List Int), s + d = N → hs.length = N → ls.length = N → (∀ t, s ≤ t → ls.getD t 0 = 0) → (∀ t, t < s → LongOk H n hs ls t) →
    (nwG H n d s hs ls).1.length = N ∧ (nwG H n d s hs ls).2.length = N ∧ ∀ t, t < N → LongOk H n (nwG H n d s hs ls).1 (nwG H n d s hs ls).2 t := by
  intro d
  induction d with
  | zero =>
    intro s hs ls hd h1 h2 h3 h4
    exact ⟨h1, h2, fun t ht => h4 t (by omega)⟩
  | succ d ih =>
    intro s hs ls hd h1 h2 h3 h4
    rw [nwG]
    by_cases hH : H s = true
    · rw [if_pos hH]
      refine ih (s + 1) _ _ (by omega) (by rw [List.length_set]; exact h1) h2 (fun t ht => h3 t (by omega)) (fun t ht => ?_)
      by_cases e : t = s
      · subst e
        refine ⟨by rw [getD_set_self _ _ _ _ (by omega), hH], ?_⟩
        rw [h3 t (Nat.le_refl _), if_pos hH]
      · exact (h4 t (by omega)).congr (fun u hu => ⟨getD_set_ne _ _ _ _ _ (by omega), rfl⟩)
    · rw [if_neg hH]
      have hH' : H s = false := by simpa using hH
      refine ih (s + 1) _ _ (by omega) (by rw [List.length_set]; exact h1) (by rw [List.length_set]; exact h2) (fun t ht => ?_) (fun t ht => ?_)
      · rw [getD_set_ne _ _ _ _ _ (by omega)]; exact h3 t (by omega)
      · by_cases e : t = s
        · subst e
          refine ⟨by rw [getD_set_self _ _ _ _ (by omega), hH'], ?_⟩
          rw [getD_set_self _ _ _ _ (by omega), if_neg hH]
          exact congrArg nwEnd (nwIn_congr (fun u hu => ⟨rfl, by rw [getD_set_ne _ _ _ _ _ (by omega)]⟩) _ _ _)
        · exact (h4 t (by omega)).congr (fun u hu => ⟨getD_set_ne _ _ _ _ _ (by omega), getD_set_ne _ _ _ _ _ (by omega)⟩)
/-! Better or not. -/
theorem better_iff (o b : Bool × Int × Int) : betterB o b = true ↔ (o.1 = true ∧ (b.1 = false ∨ o.2.2 < b.2.2)) ∨ (o.1 = false ∧ b.1 = false ∧ o.2.2 > b.2.2) := by
  obtain ⟨ow, oa, om⟩ := o
  obtain ⟨bw, ba, bm⟩ := b
  cases ow <;> cases bw <;> simp [betterB]
theorem better_irr (o : Bool × Int × Int) : betterB o o = false := by
  rw [Bool.eq_false_iff]
  intro h
  rw [better_iff] at h
  rcases h with ⟨h1, h2 | h2⟩ | ⟨h1, h2, h3⟩
  · rw [h1] at h2; cases h2
  · omega
  · omega
theorem better_trans {x o p : Bool × Int × Int} (h1 : betterB x p = false) (h2 : betterB o p = true) : betterB x o = false := by
  rw [Bool.eq_false_iff] at h1 ⊢
  intro h3
  apply h1
  rw [better_iff] at h2 h3 ⊢
  obtain ⟨xw, xa, xm⟩ := x
  obtain ⟨ow, oa, om⟩ := o
  obtain ⟨pw, pa, pm⟩ := p
  cases xw <;> cases ow <;> cases pw <;> simp_all <;> omega
theorem better_same {x o p : Bool × Int × Int} (h1 : betterB x p = false) (h2 : betterB o p = true) (hs : x.1 = o.1 ∧ x.2.2 = o.2.2) : False := by
  have : betterB x p = betterB o p := by unfold betterB; rw [hs.1, hs.2]
  rw [this, h2] at h1; cases h1
/-! Best play, the values of all takes at hand. -/
def bestP (tk : Nat → Bool × Int × Int) (s : Nat) : Nat → Nat → Option (Bool × Int × Int) → Option (Bool × Int × Int)
  | 0, _, b => b
  | d + 1, i, b => if s / 2 ^ i % 2 = 0 then bestP tk s d (i + 1) b else bestP tk s d (i + 1) (some (pickO b (tk i)))
theorem bestGo_ev {f : Nat → Nat → Option (Bool × Int × Int)} {tk : Nat → Bool × Int × Int} {s m : Nat} (h : ∀ i, i < m → ¬ s / 2 ^ i % 2 = 0 → Ev (fun k => f k i) (tk i)) : ∀ d i b, i + d = m → Ev (fun k => bestGo (f k) s d i b) (bestP tk s d i b)
  | 0, _, _, _ => Ev.now _
  | d + 1, i, b, hd => by
    simp only [bestGo, bestP]
    by_cases hb : s / 2 ^ i % 2 = 0
    · simp only [hb, if_true]; exact bestGo_ev h d _ _ (by omega)
    · simp only [hb, if_false]; exact Ev.bind (h i (by omega) hb) (bestGo_ev h d _ _ (by omega))
def tkv (H : Nat → Bool) (L : Nat → Int) (s i : Nat) : Bool × Int × Int := if H (s - 2 ^ i) = true then (true, (i : Int), 1) else (decide (L (s - 2 ^ i) < 0), (i : Int), if L (s - 2 ^ i) < 0 then 1 - L (s - 2 ^ i) else L (s - 2 ^ i) + 1)
def Same (x : Bool × Int × Int) (w : Bool) (m : Int) : Prop := x.1 = w ∧ x.2.2 = m
def BInv (tk : Nat → Bool × Int × Int) (s i : Nat) (b : Option (Bool × Int × Int)) (q : Int × Int) : Prop :=
  (0 ≤ q.1 ∧ q.1 ≤ s ∧ 0 ≤ q.2 ∧ q.2 ≤ s) ∧ match b with
  | none => q.1 = 0 ∧ q.2 = 0 ∧ ∀ j, j < i → s / 2 ^ j % 2 = 0
  | some p => 1 ≤ p.2.2 ∧ p.2.2 ≤ s ∧ (p.1 = true → q.1 = p.2.2) ∧ (p.1 = false → q.1 = 0 ∧ q.2 = p.2.2) ∧ ∃ j, j < i ∧ ¬ s / 2 ^ j % 2 = 0 ∧ tk j = p ∧ (∀ j', j' < i → ¬ s / 2 ^ j' % 2 = 0 → betterB (tk j') p = false) ∧ ∀ j', j' < j → ¬ s / 2 ^ j' % 2 = 0 → ¬ Same (tk j') p.1 p.2.2
/-- one take more -/
def qStep (o : Bool × Int × Int) (q : Int × Int) : Int × Int := if o.1 = true then (if q.1 = 0 ∨ o.2.2 < q.1 then (o.2.2, q.2) else q) else (q.1, if q.2 > o.2.2 then q.2 else o.2.2)
theorem BInv.step {tk : Nat → Bool × Int × Int} {s i : Nat} {b : Option (Bool × Int × Int)} {q : Int × Int} (h : BInv tk s i b q) (hb : ¬ s / 2 ^ i % 2 = 0) (h1 : 1 ≤ (tk i).2.2) (h2 : (tk i).2.2 ≤ s) : BInv tk s (i + 1) (some (pickO b (tk i))) (qStep (tk i) q) := by
  obtain ⟨⟨b1, b2, b3, b4⟩, h⟩ := h
  have hbd : 0 ≤ (qStep (tk i) q).1 ∧ (qStep (tk i) q).1 ≤ s ∧ 0 ≤ (qStep (tk i) q).2 ∧ (qStep (tk i) q).2 ≤ s := by
    unfold qStep
    split
    · split
      · exact ⟨by simp only; omega, by simp only; omega, b3, b4⟩
      · exact ⟨b1, b2, b3, b4⟩
    · refine ⟨b1, b2, ?_, ?_⟩
      · simp only; split <;> omega
      · simp only; split <;> omega
  refine ⟨hbd, ?_⟩
  cases b with
  | none =>
    obtain ⟨z1, z2, z3⟩ := h
    simp only [pickO]
    refine ⟨h1, h2, fun e => ?_, fun e => ?_, i, by omega, hb, rfl, fun j' hj' hb' => ?_, fun j' hj' hb' => absurd (z3 j' hj') hb'⟩
    · unfold qStep; rw [if_pos e, if_pos (Or.inl z1)]
    · unfold qStep; rw [if_neg (by simp [e])]
      refine ⟨z1, ?_⟩
      simp only
      rw [if_neg (by omega)]
    · by_cases e : j' = i
      · subst e; exact better_irr _
      · exact absurd (z3 j' (by omega)) hb'
  | some p =>
    obtain ⟨m1, m2, w1, w2, j, hj, hbj, htk, hbt, hfs⟩ := h
    simp only [pickO]
    by_cases hbet : betterB (tk i) p = true
    · rw [if_pos hbet]
      have hbi := (better_iff _ _).1 hbet
      refine ⟨h1, h2, fun e => ?_, fun e => ?_, i, by omega, hb, rfl, fun j' hj' hb' => ?_, fun j' hj' hb' hs => ?_⟩
      · unfold qStep
        rw [if_pos e, if_pos]
        rcases hbi with ⟨_, h3 | h3⟩ | ⟨h3, _, _⟩
        · exact Or.inl (w2 h3).1
        · cases hp : p.1 with
          | true => right; rw [w1 hp]; exact h3
          | false => exact Or.inl (w2 hp).1
        · rw [e] at h3; cases h3
      · rcases hbi with ⟨h3, _⟩ | ⟨_, h3, h4⟩
        · rw [e] at h3; cases h3
        · unfold qStep; rw [if_neg (by simp [e])]
          obtain ⟨x1, x2⟩ := w2 h3
          refine ⟨x1, ?_⟩
          simp only
          rw [if_neg (by omega)]
      · by_cases e : j' = i
        · subst e; exact better_irr _
        · exact better_trans (hbt j' (by omega) hb') hbet
      · exact better_same (hbt j' hj' hb') hbet hs
    · rw [if_neg hbet]
      have hbet' : betterB (tk i) p = false := by simpa using hbet
      have hnb := fun h => hbet ((better_iff _ _).2 h)
      refine ⟨m1, m2, fun e => ?_, fun e => ?_, j, by omega, hbj, htk, fun j' hj' hb' => ?_, hfs⟩
      · have hq := w1 e
        unfold qStep
        cases ho : (tk i).1 with
        | true =>
          rw [if_pos rfl, if_neg]
          · exact hq
          · rintro (h3 | h3)
            · omega
            · exact hnb (Or.inl ⟨ho, Or.inr (by omega)⟩)
        | false => rw [if_neg (by simp)]; exact hq
      · obtain ⟨x1, x2⟩ := w2 e
        cases ho : (tk i).1 with
        | true => exact absurd (Or.inl ⟨ho, Or.inl e⟩) hnb
        | false =>
          unfold qStep
          rw [ho, if_neg (by simp)]
          refine ⟨x1, ?_⟩
          simp only
          by_cases h3 : q.2 > (tk i).2.2
          · rw [if_pos h3]; exact x2
          · rw [if_neg h3]
            by_cases h4 : (tk i).2.2 > p.2.2
            · exact absurd (Or.inr ⟨ho, e, h4⟩) hnb
            · omega
      · by_cases e : j' = i
        · subst e; exact hbet'
        · exact hbt j' (by omega) hb'
theorem BInv.skip {tk : Nat → Bool × Int × Int} {s i : Nat} {b : Option (Bool × Int × Int)} {q : Int × Int} (h : BInv tk s i b q) (hb : s / 2 ^ i % 2 = 0) : BInv tk s (i + 1) b q := by
  obtain ⟨h0, h⟩ := h
  refine ⟨h0, ?_⟩
  cases b with
  | none =>
    refine ⟨h.1, h.2.1, fun j hj => ?_⟩
    by_cases e : j = i
    · subst e; exact hb
    · exact h.2.2 j (by omega)
  | some p =>
    obtain ⟨m1, m2, w1, w2, j, hj, hbj, htk, hbt, hfs⟩ := h
    refine ⟨m1, m2, w1, w2, j, by omega, hbj, htk, fun j' hj' hb' => ?_, hfs⟩
    by_cases e : j' = i
    · subst e; exact absurd hb hb'
    · exact hbt j' (by omega) hb'
theorem step_eq (hm : Bool) (v q1 q2 i s : Int) (hz : hm = false → v ≠ 0) (hbd : -s ≤ v ∧ v ≤ s) (hs4 : s ≤ 1000000) (hq : 0 ≤ q1) :
    (if hm = true then ((1 : Int), q2) else if v < 0 ∧ (q1 = 0 ∨ wrap64 (1 - v) < q1) then (wrap64 (1 - v), q2) else if 0 < v then (q1, if q2 > wrap64 (1 + v) then q2 else wrap64 (1 + v)) else (q1, q2)) = qStep (if hm = true then (true, i, 1) else (decide (v < 0), i, if v < 0 then 1 - v else v + 1)) (q1, q2) := by
  have e1 : wrap64 (1 - v) = 1 - v := wrap_in (by omega) (by omega)
  have e2 : wrap64 (1 + v) = v + 1 := by rw [wrap_in (by omega) (by omega)]; omega
  rw [e1, e2]
  clear e1 e2
  unfold qStep
  cases hm with
  | true =>
    simp only [if_true]
    split
    · rfl
    · rename_i h; congr 1; omega
  | false =>
    have hz := hz rfl
    simp only [Bool.false_eq_true, if_false, decide_eq_true_eq]
    by_cases hv : v < 0
    · simp only [hv, if_true, true_and]
      split
      · rfl
      · rw [if_neg (by omega)]
    · simp only [hv, if_false, false_and]
      rw [if_pos (by omega)]
theorem nwStep_tk {H : Nat → Bool} {hs : List Bool} {ls : List Int} {s i : Nat} {q : Int × Int} (hb : ¬ s / 2 ^ i % 2 = 0) (hs1 : hs.getD (s - 2 ^ i) false = H (s - 2 ^ i)) (hz : H (s - 2 ^ i) = false → ls.getD (s - 2 ^ i) 0 ≠ 0) (hbd : -(s : Int) ≤ ls.getD (s - 2 ^ i) 0 ∧ ls.getD (s - 2 ^ i) 0 ≤ s) (hs4 : s ≤ 1000000) (hq : 0 ≤ q.1) : nwStep hs ls s i q = qStep (tkv H (fun t => ls.getD t 0) s i) q := by
  obtain ⟨q1, q2⟩ := q
  unfold nwStep
  rw [if_neg hb, hs1]
  exact step_eq _ _ _ _ _ (s : Int) hz hbd (by omega) hq
theorem nwIn_inv {H : Nat → Bool} {hs : List Bool} {ls : List Int} {s m : Nat} (hs4 : s ≤ 1000000) (hok : ∀ t, t < s → hs.getD t false = H t ∧ (H t = false → ls.getD t 0 ≠ 0) ∧ -(t : Int) ≤ ls.getD t 0 ∧ ls.getD t 0 ≤ t) : ∀ (d i : Nat) (b : Option (Bool × Int × Int)) (q : Int × Int), i + d = m → BInv (tkv H (fun t => ls.getD t 0) s) s i b q → BInv (tkv H (fun t => ls.getD t 0) s) s m (bestP (tkv H (fun t => ls.getD t 0) s) s d i b) (nwIn hs ls s d i q) := by
  intro d
  induction d with
  | zero => intro i b q hd h; obtain rfl : i = m := by omega
            exact h
  | succ d ih =>
    intro i b q hd h
    rw [bestP, nwIn]
    by_cases hb : s / 2 ^ i % 2 = 0
    · rw [if_pos hb]
      have e : nwStep hs ls s i q = q := by unfold nwStep; rw [if_pos hb]
      rw [e]
      exact ih _ _ _ (by omega) (h.skip hb)
    · rw [if_neg hb]
      have h1 := bit_le hb
      have h2 : 1 ≤ 2 ^ i := Nat.one_le_two_pow
      obtain ⟨o1, o2, o3, o4⟩ := hok (s - 2 ^ i) (by omega)
      rw [nwStep_tk hb o1 o2 ⟨by omega, by omega⟩ hs4 h.1.1]
      refine ih _ _ _ (by omega) (h.step hb ?_ ?_)
      · unfold tkv
        split
        · exact Int.le_refl _
        · simp only; split <;> omega
      · unfold tkv
        split
        · simp only; omega
        · simp only; split <;> omega
theorem gbGo_hit {hs : List Bool} {ls : List Int} {s j : Nat} {wt : Int} (hit : Nat → Prop) (hh : ∀ i, ¬ s / 2 ^ i % 2 = 0 → (hit i ↔ ((hs.getD (s - 2 ^ i) false = true ∧ wt = 1) ∨ (hs.getD (s - 2 ^ i) false = false ∧ ((1 < wt ∧ ls.getD (s - 2 ^ i) 0 = wrap64 (1 - wt)) ∨ (wt < 0 ∧ ls.getD (s - 2 ^ i) 0 = wrap64 (wrap64 (-wt) - 1))))))) (hbj : ¬ s / 2 ^ j % 2 = 0) (hj : hit j) (hn : ∀ j', j' < j → ¬ s / 2 ^ j' % 2 = 0 → ¬ hit j') : ∀ (d i : Nat), i ≤ j → j < i + d → gbGo hs ls s wt d i = (j : Int) := by
  intro d
  induction d with
  | zero => intro i h1 h2; omega
  | succ d ih =>
    intro i h1 h2
    rw [gbGo]
    by_cases e : i = j
    · subst e
      rw [if_neg hbj, if_pos ((hh i hbj).1 hj)]
    · by_cases hb : s / 2 ^ i % 2 = 0
      · rw [if_pos hb]; exact ih _ (by omega) (by omega)
      · rw [if_neg hb, if_neg (fun h => hn i (by omega) hb ((hh i hb).2 h))]
        exact ih _ (by omega) (by omega)
/-! The game of a ladder. -/
/-- what is known of a set: at home or not, how long it lasts, and which rung is taken -/
def SetOk (n : Nat) (l : List Int) (hs : List Bool) (ls : List Int) (s : Nat) : Prop :=
  hs.getD s false = homeB n (leftR l s) ∧ (-(s : Int) ≤ ls.getD s 0 ∧ ls.getD s 0 ≤ s) ∧ (homeB n (leftR l s) = false → ls.getD s 0 ≠ 0 ∧ ∃ j : Nat, j < l.length ∧ ¬ s / 2 ^ j % 2 = 0 ∧ gbF l.length hs ls s = (j : Int) ∧ Ev (fun k => bestF k (n : Int) l s) (decide (0 < ls.getD s 0), (j : Int), if ls.getD s 0 < 0 then -ls.getD s 0 else ls.getD s 0))
theorem val_flip (i v s : Int) (hz : v ≠ 0) (hbd : -s ≤ v ∧ v ≤ s) (hs : s ≤ 1000000) : (!decide (0 < v), i, wrap64 ((if v < 0 then -v else v) + 1)) = (decide (v < 0), i, if v < 0 then 1 - v else v + 1) := by
  by_cases hv : v < 0
  · rw [if_pos hv, if_pos hv, wrap_in (by omega) (by omega)]
    have : decide (0 < v) = false := decide_eq_false (by omega)
    rw [this, decide_eq_true hv]
    simp only [Bool.not_false, Prod.mk.injEq, true_and]
    omega
  · rw [if_neg hv, if_neg hv, wrap_in (by omega) (by omega)]
    have : decide (0 < v) = true := decide_eq_true (by omega)
    rw [this, decide_eq_false hv]
    simp
theorem hit_iff (hm : Bool) (v wt m : Int) (w : Bool) (hz : hm = false → v ≠ 0) (hw : wt = if w = true then m else -m) (hm1 : 1 ≤ m) (hbd : m ≤ 1000000) (i : Int) :
    Same (if hm = true then (true, i, 1) else (decide (v < 0), i, if v < 0 then 1 - v else v + 1)) w m ↔ ((hm = true ∧ wt = 1) ∨ (hm = false ∧ ((1 < wt ∧ v = wrap64 (1 - wt)) ∨ (wt < 0 ∧ v = wrap64 (wrap64 (-wt) - 1))))) := by
  have hwt : -1000000 ≤ wt ∧ wt ≤ 1000000 := by rw [hw]; split <;> exact ⟨by omega, by omega⟩
  have e1 : wrap64 (1 - wt) = 1 - wt := wrap_in (by omega) (by omega)
  have e3 : wrap64 (-wt) = -wt := wrap_in (by omega) (by omega)
  have e2 : wrap64 (wrap64 (-wt) - 1) = -wt - 1 := by rw [e3]; exact wrap_in (by omega) (by omega)
  rw [e1, e2]
  clear e1 e2 e3
  unfold Same
  cases hm with
  | true =>
    simp only [if_true, Bool.true_eq_false, false_and, or_false, true_and]
    cases w with
    | true => rw [if_pos rfl] at hw; simp only [true_and]; omega
    | false => rw [if_neg (by simp)] at hw; simp only [Bool.true_eq_false, false_and, false_iff]; omega
  | false =>
    have hz := hz rfl
    simp only [Bool.false_eq_true, if_false, false_and, false_or, true_and]
    cases w with
    | true =>
      rw [if_pos rfl] at hw
      rw [decide_eq_true_eq]
      by_cases hv : v < 0
      · rw [if_pos hv]; omega
      · rw [if_neg hv]; omega
    | false =>
      rw [if_neg (by simp)] at hw
      rw [decide_eq_false_iff_not]
      by_cases hv : v < 0
      · rw [if_pos hv]; omega
      · rw [if_neg hv]; omega
theorem tkv_ev {n : Nat} {l : List Int} {hs : List Bool} {ls : List Int} (hn : n ≤ 8) (hl : l.length ≤ 12) {s i : Nat} (hb : ¬ s / 2 ^ i % 2 = 0) (hs4 : s ≤ 1000000) (h : SetOk n l hs ls (s - 2 ^ i)) : Ev (fun k => takeX (bestF k (n : Int) l) k (n : Int) l s i) (tkv (fun t => homeB n (leftR l t)) (fun t => ls.getD t 0) s i) := by
  obtain ⟨_, hbd, h⟩ := h
  have hll := leftR_length l (s - 2 ^ i)
  unfold takeX tkv
  refine Ev.bind (isHomely_ev n _ hn (by omega)) ?_
  refine Ev.iteb (fun c => ?_) (fun c => ?_)
  · rw [if_pos c]; exact Ev.now _
  · rw [if_neg (by simp [c])]
    obtain ⟨hz, j, _, _, _, hev⟩ := h c
    refine Ev.bind hev ?_
    refine Ev.eq (Ev.now _) ?_
    exact val_flip _ _ ((s - 2 ^ i : Nat) : Int) hz hbd (by have := Nat.sub_le s (2 ^ i); omega)
theorem SetOk.of {n : Nat} {l : List Int} {hs : List Bool} {ls : List Int} (hn : n ≤ 8) (hl : l.length ≤ 12) {s : Nat} (hs2 : s < 2 ^ l.length) (hok : LongOk (fun t => homeB n (leftR l t)) l.length hs ls s) (ih : ∀ t, t < s → SetOk n l hs ls t) : SetOk n l hs ls s := by
  have hpow := pow_12 l.length hl
  have hs4 : s ≤ 1000000 := by omega
  obtain ⟨o1, o2⟩ := hok
  simp only at o1 o2
  refine ⟨o1, ?_⟩
  by_cases hH : homeB n (leftR l s) = true
  · rw [if_pos hH] at o2
    rw [o2]
    exact ⟨⟨by omega, by omega⟩, fun e => by rw [hH] at e; cases e⟩
  · rw [if_neg hH] at o2
    have hs0 : s ≠ 0 := by
      intro e
      rw [e, leftR_zero, homeB_nil] at hH
      exact hH rfl
    have inv := nwIn_inv (H := fun t => homeB n (leftR l t)) (hs := hs) (ls := ls) (s := s) (m := l.length) hs4 (fun t ht => ⟨(ih t ht).1, fun e => ((ih t ht).2.2 e).1, (ih t ht).2.1⟩) l.length 0 none (0, 0) (Nat.zero_add _) ⟨⟨by simp, by simp, by simp, by simp⟩, rfl, rfl, fun j hj => by omega⟩
    have hev := bestGo_ev (f := fun k i => takeX (bestF k (n : Int) l) k (n : Int) l s i) (tk := tkv (fun t => homeB n (leftR l t)) (fun t => ls.getD t 0) s) (s := s) (m := l.length) (fun i hi hb => tkv_ev hn hl hb hs4 (ih _ (by have := bit_le hb; have : 1 ≤ 2 ^ i := Nat.one_le_two_pow; omega))) l.length 0 none (Nat.zero_add _)
    generalize bestP (tkv (fun t => homeB n (leftR l t)) (fun t => ls.getD t 0) s) s l.length 0 none = b at inv hev
    generalize nwIn hs ls s l.length 0 (0, 0) = q at inv o2
    obtain ⟨⟨b1, b2, b3, b4⟩, inv⟩ := inv
    cases b with
    | none =>
      obtain ⟨_, _, h3⟩ := inv
      obtain ⟨j, hj, hb⟩ := bit_ex l.length s hs2 hs0
      exact absurd (h3 j hj) hb
    | some p =>
      obtain ⟨m1, m2, w1, w2, j, hj, hbj, htk, hbt, hfs⟩ := inv
      have hlv : ls.getD s 0 = if p.1 = true then p.2.2 else -p.2.2 := by
        rw [o2]
        unfold nwEnd
        cases hp : p.1 with
        | true => rw [if_pos rfl, if_neg (by have := w1 hp; omega)]; exact w1 hp
        | false =>
          obtain ⟨x1, x2⟩ := w2 hp
          rw [if_pos x1, if_neg (by simp), wrap_in (by omega) (by omega), x2]
      have hat : p.2.1 = (j : Int) := by
        rw [← htk]; unfold tkv; split <;> rfl
      have hne : ls.getD s 0 ≠ 0 := by rw [hlv]; split <;> omega
      refine ⟨by rw [hlv]; split <;> exact ⟨by omega, by omega⟩, fun _ => ⟨hne, j, hj, hbj, ?_, ?_⟩⟩
      · unfold gbF
        refine gbGo_hit (fun i => Same (tkv (fun t => homeB n (leftR l t)) (fun t => ls.getD t 0) s i) p.1 p.2.2) (fun i hb => ?_) hbj (by rw [htk]; exact ⟨rfl, rfl⟩) hfs _ _ (Nat.zero_le _) (by omega)
        have hlt : s - 2 ^ i < s := by have := bit_le hb; have : 1 ≤ 2 ^ i := Nat.one_le_two_pow; omega
        obtain ⟨i1, i2, i3⟩ := ih _ hlt
        rw [i1]
        exact hit_iff _ _ _ _ _ (fun e => (i3 e).1) hlv m1 (by omega) _
      · refine Ev.succ ?_
        simp only [bestF]
        refine Ev.bind hev ?_
        refine Ev.eq (Ev.now _) ?_
        obtain ⟨pw, pa, pm⟩ := p
        simp only [Option.getD_some] at *
        subst hat
        rw [hlv]
        cases pw with
        | true =>
          have h3 : ¬ pm < 0 := by omega
          have h4 : (0 < pm) := by omega
          simp [h3, h4]
        | false =>
          have h3 : -pm < 0 := by omega
          have h4 : ¬ (0 < -pm) := by omega
          simp [h3, h4]
          omega
theorem setOk_all {n : Nat} {l : List Int} {hs : List Bool} {ls : List Int} (hn : n ≤ 8) (hl : l.length ≤ 12) (hok : ∀ t, t < 2 ^ l.length → LongOk (fun t => homeB n (leftR l t)) l.length hs ls t) : ∀ s, s < 2 ^ l.length → SetOk n l hs ls s := by
  intro s
  induction s using Nat.strongRecOn with
  | ind s ih => exact fun h => SetOk.of hn hl h (hok s h) (fun t ht => ih t ht (by omega))
/-- the reference's lists of a ladder -/
theorem gaNew_ev {n : Nat} {l : List Int} (hn : n ≤ 8) (hl : l.length ≤ 12) : ∃ hs ls, Ev (fun k => gaNewF k (n : Int) l) (hs, ls) ∧ ∀ s, s < 2 ^ l.length → SetOk n l hs ls s := by
  have h1 := nwGo_ev (hm := fun k s => nwHome k (n : Int) l s) (H := fun t => homeB n (leftR l t)) l.length (fun s => by
    unfold nwHome
    have hll := leftR_length l s
    exact Ev.bind (gaLeft_ev (n : Int) l (by omega) s) (gaHome_ev n _ hn (by omega))) (2 ^ l.length) 0 (List.replicate (2 ^ l.length) false) (List.replicate (2 ^ l.length) 0)
  have h2 := nwG_spec (fun t => homeB n (leftR l t)) l.length (2 ^ l.length) (2 ^ l.length) 0 (List.replicate (2 ^ l.length) false) (List.replicate (2 ^ l.length) 0) (Nat.zero_add _) List.length_replicate List.length_replicate (fun t _ => by rw [List.getD_eq_getElem?_getD, List.getElem?_replicate]; split <;> rfl) (fun t ht => by omega)
  refine ⟨_, _, ?_, setOk_all hn hl h2.2.2⟩
  unfold gaNewF
  simp only [hl, if_true]
  exact h1
end Go.Proofs.Ytnmhokkkjpjmeaa.Q
