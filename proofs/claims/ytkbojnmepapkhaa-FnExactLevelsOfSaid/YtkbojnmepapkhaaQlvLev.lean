/- Levels of rungs: what the program's sliding and the reference's free wires give is the same. No program, no memory. -/
import Derived.Test.YtkbojnmepapkhaaB4
import Derived.Test.YtkbojnmepapkhaaB5
import Derived.Test.YtkbojnmepapkhaaQlaGood
namespace Go.Proofs.Ytkbojnmepapkhaa.Q
open Go.RowKit Go.Proofs.Ytkbojnmepapkhaa.B Go.Proofs.YtkbojnmepapkhaaW.PrintWords Go.Proofs.YtkbojnmepapkhaaW.PrintLast Go.Proofs.YtkbojnmepapkhaaW.PrintMore
set_option linter.unusedVariables false
set_option linter.unusedSimpArgs false
/-! A number put into an increasing list. -/
def putL : List Int → Int → List Int
  | [], y => [y]
  | x :: l, y => if x < y then x :: putL l y else y :: x :: l
def isoL (l : List Int) : List Int := l.foldl putL []
def Inc (l : List Int) : Prop := l.Pairwise (· < ·)
theorem putL_of {P Q : List Int} {y : Int} (hP : ∀ x ∈ P, x < y) (hQ : ∀ x ∈ Q, y < x) : putL (P ++ Q) y = P ++ y :: Q := by
  induction P with
  | nil =>
    cases Q with
    | nil => rfl
    | cons q Q => have := hQ q (by simp); rw [List.nil_append, putL, if_neg (by omega)]; rfl
  | cons p P ih =>
    rw [List.cons_append, putL, if_pos (hP p (by simp)), ih (fun x hx => hP x (by simp [hx]))]; rfl
theorem split_at {l : List Int} {y : Int} (h : Inc l) (hy : y ∉ l) : ∃ P Q, l = P ++ Q ∧ (∀ x ∈ P, x < y) ∧ ∀ x ∈ Q, y < x := by
  induction l with
  | nil => exact ⟨[], [], rfl, by simp, by simp⟩
  | cons a l ih =>
    unfold Inc at h
    rw [List.pairwise_cons] at h
    by_cases hay : a < y
    · obtain ⟨P, Q, e, hP, hQ⟩ := ih h.2 (fun hm => hy (by simp [hm]))
      refine ⟨a :: P, Q, by rw [e]; rfl, fun x hx => ?_, hQ⟩
      rcases List.mem_cons.1 hx with rfl | hx
      · exact hay
      · exact hP x hx
    · have hne : y ≠ a := fun e => hy (by simp [e])
      refine ⟨[], a :: l, rfl, by simp, fun x hx => ?_⟩
      rcases List.mem_cons.1 hx with rfl | hx
      · omega
      · have := h.1 x hx; omega
theorem inc_mid {P Q : List Int} {y : Int} (h : Inc (P ++ Q)) (hP : ∀ x ∈ P, x < y) (hQ : ∀ x ∈ Q, y < x) : Inc (P ++ y :: Q) := by
  unfold Inc at h ⊢
  rw [List.pairwise_append] at h ⊢
  refine ⟨h.1, List.pairwise_cons.2 ⟨hQ, h.2.1⟩, fun a ha b hb => ?_⟩
  rcases List.mem_cons.1 hb with rfl | hb
  · exact hP a ha
  · exact h.2.2 a ha b hb
theorem putL_inc {l : List Int} {y : Int} (h : Inc l) (hy : y ∉ l) : Inc (putL l y) := by
  obtain ⟨P, Q, rfl, hP, hQ⟩ := split_at h hy
  rw [putL_of hP hQ]
  exact inc_mid h hP hQ
theorem mem_putL (l : List Int) (y x : Int) : x ∈ putL l y ↔ x = y ∨ x ∈ l := by
  induction l with
  | nil => simp [putL]
  | cons a l ih =>
    rw [putL]
    split
    · rw [List.mem_cons, ih, List.mem_cons]
      constructor
      · rintro (h | h | h)
        · exact .inr (.inl h)
        · exact .inl h
        · exact .inr (.inr h)
      · rintro (h | h | h)
        · exact .inr (.inl h)
        · exact .inl h
        · exact .inr (.inr h)
    · rw [List.mem_cons]
theorem putL_length (l : List Int) (y : Int) : (putL l y).length = l.length + 1 := by
  induction l with
  | nil => rfl
  | cons a l ih => rw [putL]; split <;> simp [ih]
theorem isoL_snoc (l : List Int) (y : Int) : isoL (l ++ [y]) = putL (isoL l) y := by simp [isoL]
theorem isoL_spec : ∀ (n : Nat) (l : List Int), l.length = n → (∀ x, x ∈ isoL l ↔ x ∈ l) ∧ (isoL l).length = l.length ∧ (l.Nodup → Inc (isoL l)) := by
  intro n
  induction n with
  | zero =>
    intro l hl
    obtain rfl : l = [] := List.length_eq_zero_iff.1 hl
    exact ⟨fun x => by simp [isoL], rfl, fun _ => List.Pairwise.nil⟩
  | succ n ih =>
    intro l hl
    obtain ⟨l', y, rfl⟩ : ∃ l' y, l = l' ++ [y] := ⟨l.dropLast, l.getLast (by intro e; rw [e] at hl; cases hl), (List.dropLast_concat_getLast _).symm⟩
    have hl' : l'.length = n := by simpa using hl
    obtain ⟨i1, i2, i3⟩ := ih l' hl'
    rw [isoL_snoc]
    refine ⟨fun x => ?_, ?_, fun hnd => ?_⟩
    · rw [mem_putL, i1, List.mem_append, List.mem_singleton]
      exact or_comm
    · rw [putL_length, i2]; simp
    · rw [List.nodup_append] at hnd
      refine putL_inc (i3 hnd.1) (fun hm => ?_)
      rw [i1] at hm
      exact hnd.2.2 y hm y (by simp) rfl
theorem inc_len : ∀ (l : List Int) (a : Int) (m : Nat), Inc l → (∀ x ∈ l, a ≤ x ∧ x < a + m) → l.length ≤ m := by
  intro l
  induction l with
  | nil => intro a m _ _; exact Nat.zero_le _
  | cons x l ih =>
    intro a m h hb
    unfold Inc at h
    rw [List.pairwise_cons] at h
    have hx := hb x (by simp)
    obtain ⟨m', rfl⟩ : ∃ m', m = m' + 1 := ⟨m - 1, by omega⟩
    have := ih (a + 1) m' h.2 (fun z hz => by
      have h1 := h.1 z hz
      have h2 := hb z (by simp [hz])
      omega)
    rw [List.length_cons]; omega
/-! The reference's insertion. -/
theorem rdn (l : List Int) (j : Nat) (hj : j < l.length) : rd l (j : Int) = l[j] := rd_nat l j hj
theorem l1Put_go {P Q : List Int} {y : Int} (hlen : (P ++ Q).length ≤ 1000) (hP : ∀ x ∈ P, x < y) (hQ : ∀ x ∈ Q, y < x) : ∀ (d j : Nat), j + d = P.length → Ev (fun k => spec_l1Put.l0 k (P ++ Q) y (j : Int)) (P ++ y :: Q) := by
  rw [List.length_append] at hlen
  intro d
  induction d with
  | zero =>
    intro j hj
    have hj' : j = P.length := by omega
    subst hj'
    refine Ev.succ (Ev.ret fun k => ?_)
    have t1 : (P ++ Q).take P.length = P := by simp
    have t2 : (P ++ Q).drop P.length = Q := by simp
    have g0 : (0 : Int) ≤ (P.length : Int) := by omega
    have g1 : (P.length : Int) ≤ ((P ++ Q).length : Int) := by rw [List.length_append]; omega
    have g2 : ([] : List Int).length + P.length < 17592186044416 := by simp; omega
    have g3 : (([] : List Int) ++ P).length < 17592186044416 := by simp; omega
    have g4 : ((([] : List Int) ++ P) ++ [y]).length + Q.length < 17592186044416 := by simp; omega
    cases Q with
    | nil =>
      have g5 : ¬ (P.length : Int) < ((P ++ ([] : List Int)).length : Int) := by simp
      simp only [spec_l1Put.l0, g5, if_false, Option.bind_some, g0, g1, if_true, Int.toNat_natCast, t1, t2, g2, g3, g4]
      simp
    | cons q Q =>
      have hq := hQ q (by simp)
      have g5 : (P.length : Int) < ((P ++ q :: Q).length : Int) := by rw [List.length_append, List.length_cons]; omega
      have g6 : rd (P ++ q :: Q) (P.length : Int) = q := by rw [rdn _ _ (by rw [List.length_append, List.length_cons]; omega)]; simp
      have g7 : ¬ q < y := by omega
      have g8 : ¬ q = y := by omega
      simp only [spec_l1Put.l0, g5, if_true, g0, g6, g7, g8, if_false, Option.bind_some, g1, Int.toNat_natCast, t1, t2, g2, g3, g4]
      simp
  | succ d ih =>
    intro j hj
    refine Ev.succ ?_
    have hjl : j < (P ++ Q).length := by rw [List.length_append]; omega
    have g0 : (0 : Int) ≤ (j : Int) := by omega
    have g5 : (j : Int) < ((P ++ Q).length : Int) := by omega
    have g6 : rd (P ++ Q) (j : Int) = P[j] := by rw [rdn _ _ hjl, List.getElem_append_left (by omega)]
    have g7 : P[j] < y := hP _ (List.getElem_mem _)
    simp only [spec_l1Put.l0, g5, if_true, g0, g6, g7, wrap_nat j 2000 (by omega) (by omega)]
    exact ih (j + 1) (by omega)
theorem l1Put_ev {l : List Int} {y : Int} (hl : l.length ≤ 1000) (h : Inc l) (hy : y ∉ l) : Ev (fun k => spec_l1Put.f k l y) (putL l y) := by
  obtain ⟨P, Q, rfl, hP, hQ⟩ := split_at h hy
  rw [putL_of hP hQ]
  unfold spec_l1Put.f
  exact l1Put_go hl hP hQ P.length 0 (Nat.zero_add _)
/-! The program's sort of short lists. -/
theorem less_f (a b : Int) : cmp_Less_int.f a b = some (decide (a < b)) := by
  unfold cmp_Less_int.f cmp_isNaN_int.f
  simp
theorem swap_two (P T : List Int) (z y : Int) : ((P ++ z :: y :: T).set (P.length + 1) z).set P.length y = P ++ y :: z :: T := by
  rw [List.set_append_right _ _ (by omega), show P.length + 1 - P.length = 1 by omega]
  rw [List.set_append_right _ _ (by omega), Nat.sub_self]
  rfl
theorem ins_inner {L : List Int} {i : Nat} (hL : L.length ≤ 12) (hi : i < L.length) (hinc : Inc (isoL (L.take i))) (hy : L[i] ∉ isoL (L.take i)) (hnext : Ev (fun k => slices_insertionSortOrdered_int.l0 k (isoL (L.take (i + 1)) ++ L.drop (i + 1)) 0 (L.length : Int) ((i + 1 : Nat) : Int)) (isoL L)) :
    ∀ (d : Nat) (P Q : List Int), P.length = d → isoL (L.take i) = P ++ Q → (∀ x ∈ Q, L[i] < x) → Ev (fun k => slices_insertionSortOrdered_int.l1 k (P ++ L[i] :: (Q ++ L.drop (i + 1))) 0 (L.length : Int) (i : Int) (d : Int)) (isoL L) := by
  have hil : (isoL (L.take i)).length = i := by rw [(isoL_spec _ _ rfl).2.1, List.length_take]; omega
  have htk : isoL (L.take (i + 1)) = putL (isoL (L.take i)) L[i] := by rw [← isoL_snoc, List.take_succ_eq_append_getElem hi]
  have done : ∀ (P Q : List Int), isoL (L.take i) = P ++ Q → (∀ x ∈ P, x < L[i]) → (∀ x ∈ Q, L[i] < x) → Ev (fun k => slices_insertionSortOrdered_int.l0 k (P ++ L[i] :: (Q ++ L.drop (i + 1))) 0 (L.length : Int) (wrap64 ((i : Int) + 1))) (isoL L) := by
    intro P Q e hP hQ
    rw [wrap_nat i 100 (by omega) (by omega)]
    have e2 : P ++ L[i] :: (Q ++ L.drop (i + 1)) = isoL (L.take (i + 1)) ++ L.drop (i + 1) := by rw [htk, e, putL_of hP hQ]; simp
    rw [e2]
    exact hnext
  intro d
  induction d with
  | zero =>
    intro P Q hP e hQ
    obtain rfl : P = [] := List.length_eq_zero_iff.1 hP
    refine Ev.succ ?_
    have g0 : ¬ (((0 : Nat) : Int) > 0) := by omega
    simp only [slices_insertionSortOrdered_int.l1, g0, if_false]
    exact done [] Q e (by simp) hQ
  | succ d ih =>
    intro P Q hP e hQ
    obtain ⟨P', z, rfl⟩ : ∃ P' z, P = P' ++ [z] := ⟨P.dropLast, P.getLast (by intro e; rw [e] at hP; cases hP), (List.dropLast_concat_getLast _).symm⟩
    have hP' : P'.length = d := by simpa using hP
    refine Ev.succ ?_
    have hdl : d ≤ 12 := by rw [e] at hil; simp at hil; omega
    generalize hTT : Q ++ L.drop (i + 1) = T
    have hlen : (P' ++ [z] ++ L[i] :: T).length = d + 1 + 1 + T.length := by simp; omega
    have g0 : (((d + 1 : Nat) : Int) > 0) := by omega
    have g1 : (0 : Int) ≤ ((d + 1 : Nat) : Int) := by omega
    have g2 : ((d + 1 : Nat) : Int) < ((P' ++ [z] ++ L[i] :: T).length : Int) := by rw [hlen]; omega
    have g3 : wrap64 (((d + 1 : Nat) : Int) - 1) = (d : Int) := by rw [wrap_in (by omega) (by omega)]; omega
    have g4 : (0 : Int) ≤ (d : Int) := by omega
    have g5 : (d : Int) < ((P' ++ [z] ++ L[i] :: T).length : Int) := by rw [hlen]; omega
    have r1 : rd (P' ++ [z] ++ L[i] :: T) ((d + 1 : Nat) : Int) = L[i] := by
      rw [rdn _ _ (by rw [hlen]; omega), List.getElem_append_right (by simp; omega)]; simp [hP']
    have r2 : rd (P' ++ [z] ++ L[i] :: T) (d : Int) = z := by
      rw [rdn _ _ (by rw [hlen]; omega), List.getElem_append_left (by simp; omega), List.getElem_append_right (by omega)]; simp
    simp only [slices_insertionSortOrdered_int.l1, g0, g1, g2, g3, g4, g5, if_true, r1, r2, less_f, Option.bind_some, decide_eq_true_eq, Int.toNat_natCast]
    refine Ev.ite (fun hlt => ?_) (fun hlt => ?_)
    · have e3 : ((P' ++ [z] ++ L[i] :: T).set (d + 1) z).set d L[i] = P' ++ L[i] :: ((z :: Q) ++ L.drop (i + 1)) := by
        rw [List.append_assoc, List.cons_append, List.nil_append, ← hP', swap_two, ← hTT]; rfl
      rw [e3]
      refine ih P' (z :: Q) hP' (by rw [e]; simp) (fun x hx => ?_)
      rcases List.mem_cons.1 hx with rfl | hx
      · exact hlt
      · exact hQ x hx
    · have hz : z ≠ L[i] := fun e2 => hy (by rw [e, ← e2]; simp)
      rw [← hTT]
      refine done (P' ++ [z]) Q e (fun x hx => ?_) hQ
      rw [e] at hinc
      unfold Inc at hinc
      rw [List.pairwise_append] at hinc
      have hp := hinc.1
      rw [List.pairwise_append] at hp
      rcases List.mem_append.1 hx with hx | hx
      · have := hp.2.2 x hx z (by simp); omega
      · rw [List.mem_singleton.1 hx]; omega
theorem nodup_take {L : List Int} (h : L.Nodup) (i : Nat) (hi : i < L.length) : L[i] ∉ isoL (L.take i) := by
  rw [(isoL_spec _ _ rfl).1]
  intro hm
  obtain ⟨j, hj, e⟩ := List.getElem_of_mem hm
  rw [List.length_take] at hj
  rw [List.getElem_take] at e
  exact (List.pairwise_iff_getElem.1 h) j i (by omega) hi (by omega) e
theorem sort_ev {L : List Int} (hL : L.length ≤ 12) (hnd : L.Nodup) : Ev (fun k => slices_Sort_int_int.f k L) (isoL L) := by
  unfold slices_Sort_int_int.f slices_insertionSortOrdered_int.f
  simp only [hL, if_true]
  have key : ∀ (d i : Nat), i + d = L.length → Ev (fun k => slices_insertionSortOrdered_int.l0 k (isoL (L.take i) ++ L.drop i) 0 (L.length : Int) (i : Int)) (isoL L) := by
    intro d
    induction d with
    | zero =>
      intro i hi
      refine Ev.succ (Ev.ret fun k => ?_)
      rw [slices_insertionSortOrdered_int.l0, if_neg (by omega), List.take_of_length_le (by omega), List.drop_eq_nil_of_le (by omega), List.append_nil]
    | succ d ih =>
      intro i hi
      have hlt : i < L.length := by omega
      refine Ev.succ ?_
      have g1 : (i : Int) < (L.length : Int) := by omega
      simp only [slices_insertionSortOrdered_int.l0, g1, if_true]
      have hil : (isoL (L.take i)).length = i := by rw [(isoL_spec _ _ rfl).2.1, List.length_take]; omega
      have h2 := ins_inner hL hlt ((isoL_spec _ _ rfl).2.2 (hnd.sublist (List.take_sublist _ _))) (nodup_take hnd i hlt) (ih (i + 1) (by omega)) i (isoL (L.take i)) [] hil (by simp) (by simp)
      rw [List.drop_eq_getElem_cons hlt]
      exact h2
  have e1 : wrap64 (0 + 1) = ((1 : Nat) : Int) := wrap_nat 0 10 (by omega) (by omega)
  rw [e1]
  cases L with
  | nil =>
    refine Ev.succ (Ev.ret fun k => ?_)
    rw [slices_insertionSortOrdered_int.l0, if_neg (by simp)]; rfl
  | cons a L =>
    have := key L.length 1 (by simp; omega)
    simpa [isoL, putL] using this
/-! The place of a rung. -/
def top (p : List Int → Bool) (out : List (List Int)) : Nat → Nat
  | 0 => 0
  | t + 1 => if p (out.getD t []) = true then t + 1 else top p out t
def IsTop (p : List Int → Bool) (out : List (List Int)) (T t : Nat) : Prop := t ≤ T ∧ (t = 0 ∨ p (out.getD (t - 1) []) = true) ∧ ∀ j, t ≤ j → j < T → p (out.getD j []) = false
theorem top_is (p : List Int → Bool) (out : List (List Int)) : ∀ T, IsTop p out T (top p out T)
  | 0 => ⟨Nat.le_refl _, .inl rfl, fun j _ h => by omega⟩
  | T + 1 => by
    rw [top]
    cases h : p (out.getD T []) with
    | true => rw [if_pos rfl]; exact ⟨Nat.le_refl _, .inr (by simpa using h), fun j h1 h2 => by omega⟩
    | false =>
      rw [if_neg (by simp)]
      obtain ⟨h1, h2, h3⟩ := top_is p out T
      refine ⟨by omega, h2, fun j hj1 hj2 => ?_⟩
      by_cases e : j = T
      · rw [e]; exact h
      · exact h3 j hj1 (by omega)
theorem IsTop.uniq {p : List Int → Bool} {out : List (List Int)} {T s t : Nat} (h1 : IsTop p out T s) (h2 : IsTop p out T t) : s = t := by
  obtain ⟨a1, a2, a3⟩ := h1
  obtain ⟨b1, b2, b3⟩ := h2
  rcases Nat.lt_trichotomy s t with h | h | h
  · rcases b2 with b2 | b2
    · omega
    · rw [a3 (t - 1) (by omega) (by omega)] at b2; cases b2
  · exact h
  · rcases a2 with a2 | a2
    · omega
    · rw [b3 (s - 1) (by omega) (by omega)] at a2; cases a2
theorem lvAt_top (out : List (List Int)) (y : Int) : ∀ T, lvAt out y T = top (fun l => l.any (fun o => !(apartV o y))) out T
  | 0 => rfl
  | T + 1 => by rw [lvAt, top, lvAt_top out y T]
theorem top_or (p q : List Int → Bool) (out : List (List Int)) (T : Nat) : top (fun l => p l || q l) out T = if top p out T > top q out T then top p out T else top q out T := by
  obtain ⟨a1, a2, a3⟩ := top_is p out T
  obtain ⟨b1, b2, b3⟩ := top_is q out T
  refine (top_is _ out T).uniq ?_
  split
  · rename_i h
    refine ⟨a1, ?_, fun j h1 h2 => ?_⟩
    · rcases a2 with a2 | a2
      · omega
      · exact .inr (by simp only [a2, Bool.true_or])
    · simp only [a3 j h1 h2, b3 j (by omega) h2, Bool.or_self]
  · rename_i h
    refine ⟨b1, ?_, fun j h1 h2 => ?_⟩
    · rcases b2 with b2 | b2
      · exact .inl b2
      · exact .inr (by simp only [b2, Bool.or_true])
    · simp only [a3 j (by omega) h2, b3 j h1 h2, Bool.or_self]
def touch (c o : Int) : Bool := decide (o = c) || decide (o + 1 = c)
theorem apart_touch {o y : Int} (h1 : 0 ≤ o ∧ o ≤ 100) (h2 : 0 ≤ y ∧ y ≤ 100) : (!(apartV o y)) = (touch y o || touch (y + 1) o) := by
  unfold apartV touch
  rw [wrap_in (by omega) (by omega), wrap_in (by omega) (by omega)]
  by_cases h : 2 ≤ o - y ∨ 2 ≤ y - o
  · have e1 : ¬ o = y := by omega
    have e2 : ¬ o + 1 = y := by omega
    have e3 : ¬ o = y + 1 := by omega
    have e4 : ¬ o + 1 = y + 1 := by omega
    simp only [e1, e2, e3, e4, decide_false, Bool.or_self, Bool.not_eq_false', Bool.or_eq_true, decide_eq_true_eq]
    exact h
  · have e1 : ¬ 2 ≤ o - y := by omega
    have e2 : ¬ 2 ≤ y - o := by omega
    simp only [e1, e2, decide_false, Bool.or_self, Bool.not_false]
    symm
    simp only [Bool.or_eq_true, decide_eq_true_eq]
    omega
/-- what is kept of the levels: their rungs are in range and apart -/
def LevOk (n : Nat) (out : List (List Int)) : Prop := ∀ l ∈ out, (∀ o ∈ l, 0 ≤ o ∧ o ≤ (n : Int) - 2) ∧ l.Nodup
theorem LevOk.at {n : Nat} {out : List (List Int)} (h : LevOk n out) (t : Nat) : (∀ o ∈ out.getD t [], 0 ≤ o ∧ o ≤ (n : Int) - 2) ∧ (out.getD t []).Nodup := by
  rw [List.getD_eq_getElem?_getD]
  cases hx : out[t]? with
  | none => exact ⟨by simp, List.Pairwise.nil⟩
  | some x => exact h x (List.mem_of_getElem? hx)
theorem LevOk.len {n : Nat} {l : List Int} (hn : n ≤ 8) (h : (∀ o ∈ l, 0 ≤ o ∧ o ≤ (n : Int) - 2) ∧ l.Nodup) : l.length ≤ 8 := by
  have hs := isoL_spec _ l rfl
  rw [← hs.2.1]
  exact inc_len _ 0 8 (hs.2.2 h.2) (fun x hx => by have := h.1 x ((hs.1 x).1 hx); omega)
theorem top_touch {n : Nat} {out : List (List Int)} (hn : n ≤ 8) (h : LevOk n out) {y : Int} (hy : 0 ≤ y ∧ y ≤ (n : Int) - 2) : ∀ T, lvAt out y T = top (fun l => l.any (touch y) || l.any (touch (y + 1))) out T := by
  intro T
  rw [lvAt_top]
  induction T with
  | zero => rfl
  | succ T ih =>
    rw [top, top, ih]
    have hat := (h.at T).1
    have e : (out.getD T []).any (fun o => !(apartV o y)) = ((out.getD T []).any (touch y) || (out.getD T []).any (touch (y + 1))) := by
      generalize out.getD T [] = l at hat
      induction l with
      | nil => rfl
      | cons o l ih2 =>
        rw [List.any_cons, List.any_cons, List.any_cons, ih2 (fun x hx => hat x (by simp [hx])), apart_touch (by have := hat o (by simp); omega) (by omega)]
        cases touch y o <;> cases touch (y + 1) o <;> cases l.any (touch y) <;> cases l.any (touch (y + 1)) <;> rfl
    rw [e]
theorem lvPut_getD {out : List (List Int)} {y : Int} (j : Nat) : (lvPut out y).getD j [] = if j = lvAt out y out.length then out.getD j [] ++ [y] else out.getD j [] := by
  have hle := lvAt_le out y out.length
  unfold lvPut
  generalize lvAt out y out.length = t at hle
  by_cases ht : t = out.length
  · rw [if_pos ht]
    by_cases hj : j = t
    · rw [if_pos hj, hj, ht]
      simp [List.getD_eq_getElem?_getD]
    · rw [if_neg hj, List.getD_eq_getElem?_getD, List.getD_eq_getElem?_getD]
      by_cases hl : j < out.length
      · rw [List.getElem?_append_left hl]
      · rw [List.getElem?_eq_none (by simp; omega), List.getElem?_eq_none (by omega)]
  · rw [if_neg ht]
    by_cases hj : j = t
    · rw [if_pos hj, hj, List.getD_eq_getElem?_getD, List.getElem?_set_self (by omega)]; rfl
    · rw [if_neg hj, List.getD_eq_getElem?_getD, List.getElem?_set_ne (by omega), List.getD_eq_getElem?_getD]
theorem lvPut_length (out : List (List Int)) (y : Int) : (lvPut out y).length = if lvAt out y out.length = out.length then out.length + 1 else out.length := by
  unfold lvPut
  split <;> simp
theorem lvPut_free {n : Nat} {out : List (List Int)} (hn : n ≤ 8) (h : LevOk n out) {y : Int} (hy : 0 ≤ y ∧ y ≤ (n : Int) - 2) : LevOk n (lvPut out y) := by
  have ht := (top_is (fun l => l.any (touch y) || l.any (touch (y + 1))) out out.length)
  rw [← top_touch hn h hy] at ht
  have hle := lvAt_le out y out.length
  have hX := h.at (lvAt out y out.length)
  have hnot : y ∉ out.getD (lvAt out y out.length) [] := by
    intro hm
    by_cases hl : lvAt out y out.length < out.length
    · have h3 := ht.2.2 _ (Nat.le_refl _) hl
      rw [Bool.or_eq_false_iff] at h3
      have h4 := List.any_eq_false.1 h3.1 y hm
      simp [touch] at h4
    · rw [List.getD_eq_getElem?_getD, List.getElem?_eq_none (by omega)] at hm
      simp at hm
  intro l hl
  obtain ⟨j, hj, rfl⟩ := List.getElem_of_mem hl
  have e := lvPut_getD (out := out) (y := y) j
  rw [List.getD_eq_getElem?_getD, List.getElem?_eq_getElem hj, Option.getD_some] at e
  rw [e]
  split
  · rename_i hjt
    rw [hjt]
    refine ⟨fun o ho => ?_, ?_⟩
    · rcases List.mem_append.1 ho with ho | ho
      · exact hX.1 o ho
      · rw [List.mem_singleton.1 ho]; exact hy
    · rw [List.nodup_append]
      refine ⟨hX.2, by simp, fun a ha b hb => ?_⟩
      rw [List.mem_singleton.1 hb]
      exact fun e2 => hnot (e2 ▸ ha)
  · exact h.at j
/-- the wires' free levels -/
def FreeOk (n : Nat) (out : List (List Int)) (free : List Int) : Prop := free.length = n ∧ ∀ c : Nat, c < n → free.getD c 0 = ((top (fun l => l.any (touch (c : Int))) out out.length : Nat) : Int)
theorem getD_setL (l : List Int) (i j : Nat) (x : Int) (h : i < l.length) : (l.set i x).getD j 0 = if j = i then x else l.getD j 0 := by
  rw [List.getD_eq_getElem?_getD, List.getD_eq_getElem?_getD]
  by_cases e : j = i
  · rw [if_pos e, e, List.getElem?_set_self h]; rfl
  · rw [if_neg e, List.getElem?_set_ne (by omega)]
theorem FreeOk.put {n : Nat} {out : List (List Int)} {free : List Int} (hn : n ≤ 8) (hlev : LevOk n out) (h : FreeOk n out free) {y : Nat} (hy : (0 : Int) ≤ (y : Int) ∧ (y : Int) ≤ (n : Int) - 2) :
    FreeOk n (lvPut out (y : Int)) ((free.set y (((lvAt out (y : Int) out.length : Nat) : Int) + 1)).set (y + 1) (((lvAt out (y : Int) out.length : Nat) : Int) + 1)) := by
  obtain ⟨h1, h2⟩ := h
  refine ⟨by simp [h1], fun c hc => ?_⟩
  rw [getD_setL _ _ _ _ (by simp [h1]; omega), getD_setL _ _ _ _ (by omega)]
  have ht := (top_is (fun l => l.any (touch (y : Int)) || l.any (touch ((y : Int) + 1))) out out.length)
  rw [← top_touch hn hlev hy] at ht
  have hle := lvAt_le out (y : Int) out.length
  have hlen := lvPut_length out (y : Int)
  have hget := fun j => lvPut_getD (out := out) (y := (y : Int)) j
  have hc0 := h2 c hc
  generalize lvPut out (y : Int) = out2 at hlen hget ⊢
  generalize lvAt out (y : Int) out.length = t at ht hle hlen hget ⊢
  have hlt2 : t < out2.length := by rw [hlen]; split <;> omega
  have hge : out.length ≤ out2.length := by rw [hlen]; split <;> omega
  have hle2 : out2.length ≤ out.length + 1 := by rw [hlen]; split <;> omega
  by_cases hcy : c = y ∨ c = y + 1
  · have e : top (fun l => l.any (touch (c : Int))) out2 out2.length = t + 1 := by
      refine (top_is _ _ _).uniq ⟨by omega, .inr ?_, fun j h3 h4 => ?_⟩
      · show (out2.getD (t + 1 - 1) []).any (touch (c : Int)) = true
        rw [Nat.add_sub_cancel, hget t, if_pos rfl, List.any_append]
        have : touch (c : Int) (y : Int) = true := by unfold touch; rcases hcy with rfl | rfl <;> simp
        simp [this]
      · show (out2.getD j []).any (touch (c : Int)) = false
        rw [hget j, if_neg (by omega)]
        by_cases hl : j < out.length
        · have h5 := ht.2.2 j (by omega) hl
          rw [Bool.or_eq_false_iff] at h5
          rcases hcy with rfl | rfl
          · exact h5.1
          · exact h5.2
        · rw [List.getD_eq_getElem?_getD, List.getElem?_eq_none (by omega)]; rfl
    rw [e]
    rcases hcy with rfl | rfl
    · rw [if_neg (by omega), if_pos rfl]; rfl
    · rw [if_pos rfl]; rfl
  · rw [if_neg (by omega), if_neg (by omega), hc0]
    congr 1
    have ho := top_is (fun l => l.any (touch (c : Int))) out out.length
    symm
    refine (top_is _ _ _).uniq ?_
    have hny : touch (c : Int) (y : Int) = false := by unfold touch; simp; omega
    have hsame : ∀ j, (out2.getD j []).any (touch (c : Int)) = (out.getD j []).any (touch (c : Int)) := by
      intro j
      rw [hget j]
      split
      · rw [List.any_append]; simp [hny]
      · rfl
    refine ⟨by have := ho.1; omega, ?_, fun j h3 h4 => ?_⟩
    · rcases ho.2.1 with h5 | h5
      · exact .inl h5
      · exact .inr ((hsame _).trans h5)
    · show (out2.getD j []).any (touch (c : Int)) = false
      rw [hsame]
      by_cases hl : j < out.length
      · exact ho.2.2 j h3 hl
      · rw [List.getD_eq_getElem?_getD, List.getElem?_eq_none (by omega)]; rfl
theorem map_iso_put (out : List (List Int)) (y : Int) (t : Nat) (ht : lvAt out y out.length = t) : (lvPut out y).map isoL = (lvoOut (out.map isoL) t).set t (putL ((lvoOut (out.map isoL) t).getD t []) y) := by
  have hle := lvAt_le out y out.length
  unfold lvPut lvoOut
  rw [ht] at hle ⊢
  rw [List.length_map]
  by_cases h : t = out.length
  · rw [if_pos h, if_pos h, h]
    have e : (out.map isoL ++ [[]]).getD out.length [] = [] := by
      rw [List.getD_eq_getElem?_getD, List.getElem?_append_right (by simp)]; simp
    rw [e, List.set_append_right _ _ (by simp)]
    simp [isoL, putL]
  · rw [if_neg h, if_neg h, List.map_set, isoL_snoc]
    congr 2
    rw [List.getD_eq_getElem?_getD, List.getD_eq_getElem?_getD, List.getElem?_map, List.getElem?_eq_getElem (by omega)]; rfl
theorem lvoGo_ev {n : Nat} (hn : n ≤ 8) : ∀ (xs : List Int) (free : List Int) (out : List (List Int)), (∀ x ∈ xs, 0 ≤ x ∧ x ≤ (n : Int) - 2) → LevOk n out → FreeOk n out free → Ev (fun k => lvoGo k xs free (out.map isoL)) ((lvPuts out xs).map isoL) := by
  intro xs
  induction xs with
  | nil => intro free out _ _ _; exact Ev.ret fun k => rfl
  | cons x xs ih =>
    intro free out hx hlev hfree
    have hx0 := hx x (by simp)
    obtain ⟨y, rfl⟩ : ∃ y : Nat, x = y := ⟨x.toNat, by omega⟩
    have hf1 := hfree.2 y (by omega)
    have hf2 := hfree.2 (y + 1) (by omega)
    have hmost : mostV (free.getD y 0) (free.getD (y + 1) 0) = ((lvAt out (y : Int) out.length : Nat) : Int) := by
      rw [hf1, hf2, top_touch hn hlev hx0, top_or]
      unfold mostV
      have e : (((y + 1 : Nat) : Int)) = (y : Int) + 1 := rfl
      rw [e]
      split <;> rename_i h1 <;> split <;> rename_i h2 <;> first | rfl | omega
    have hle := lvAt_le out (y : Int) out.length
    have hlp := lvPut_free hn hlev hx0
    have hfp := hfree.put hn hlev hx0
    have hmap := map_iso_put out (y : Int) _ rfl
    have g1 : (0 : Int) ≤ (y : Int) ∧ (y : Int) + 1 < (free.length : Int) := ⟨by omega, by rw [hfree.1]; omega⟩
    simp only [lvoGo, g1, and_self, if_true, Int.toNat_natCast, hmost]
    have g2 : (0 : Int) ≤ ((lvAt out (y : Int) out.length : Nat) : Int) ∧ ((lvAt out (y : Int) out.length : Nat) : Int) ≤ ((out.map isoL).length : Int) := ⟨by omega, by rw [List.length_map]; omega⟩
    simp only [g2, and_self, if_true]
    have hXok : Inc ((lvoOut (out.map isoL) (lvAt out (y : Int) out.length)).getD (lvAt out (y : Int) out.length) []) ∧ (y : Int) ∉ (lvoOut (out.map isoL) (lvAt out (y : Int) out.length)).getD (lvAt out (y : Int) out.length) [] ∧ ((lvoOut (out.map isoL) (lvAt out (y : Int) out.length)).getD (lvAt out (y : Int) out.length) []).length ≤ 1000 := by
      have hat := hlev.at (lvAt out (y : Int) out.length)
      have hlp2 := hlp.at (lvAt out (y : Int) out.length)
      rw [lvPut_getD, if_pos rfl] at hlp2
      have hnd := hlp2.2
      rw [List.nodup_append] at hnd
      have hni : (y : Int) ∉ out.getD (lvAt out (y : Int) out.length) [] := fun hm => hnd.2.2 _ hm _ (by simp) rfl
      have hl8 := LevOk.len hn hat
      unfold lvoOut
      rw [List.length_map]
      generalize lvAt out (y : Int) out.length = t at hat hle hni hl8
      have hs := isoL_spec _ (out.getD t []) rfl
      by_cases h : t = out.length
      · rw [if_pos h]
        have e : (out.map isoL ++ [[]]).getD t [] = [] := by
          rw [h, List.getD_eq_getElem?_getD, List.getElem?_append_right (by simp)]; simp
        rw [e]
        exact ⟨List.Pairwise.nil, by simp, by simp⟩
      · rw [if_neg h]
        have e : (out.map isoL).getD t [] = isoL (out.getD t []) := by
          rw [List.getD_eq_getElem?_getD, List.getD_eq_getElem?_getD, List.getElem?_map, List.getElem?_eq_getElem (by omega)]; rfl
        rw [e]
        exact ⟨hs.2.2 hat.2, fun hm => hni ((hs.1 _).1 hm), by rw [hs.2.1]; omega⟩
    refine Ev.bind (l1Put_ev hXok.2.2 hXok.1 hXok.2.1) ?_
    rw [← hmap]
    have := ih _ (lvPut out (y : Int)) (fun z hz => hx z (by simp [hz])) hlp hfp
    rw [show lvPuts out ((y : Int) :: xs) = lvPuts (lvPut out (y : Int)) xs from rfl]
    exact this
theorem lvPuts_ok {n : Nat} (hn : n ≤ 8) : ∀ (xs : List Int) (out : List (List Int)), (∀ x ∈ xs, 0 ≤ x ∧ x ≤ (n : Int) - 2) → LevOk n out → LevOk n (lvPuts out xs) ∧ (lvPuts out xs).length ≤ out.length + xs.length := by
  intro xs
  induction xs with
  | nil => intro out _ h; exact ⟨h, Nat.le_refl _⟩
  | cons x xs ih =>
    intro out hx h
    obtain ⟨h1, h2⟩ := ih (lvPut out x) (fun z hz => hx z (by simp [hz])) (lvPut_free hn h (hx x (by simp)))
    refine ⟨h1, ?_⟩
    have h3 := lvPut_length out x
    have h4 : (lvPut out x).length ≤ out.length + 1 := by rw [h3]; split <;> omega
    rw [show lvPuts out (x :: xs) = lvPuts (lvPut out x) xs from rfl, List.length_cons]
    omega
theorem sortAll_ev {n : Nat} (hn : n ≤ 8) : ∀ (out : List (List Int)), LevOk n out → Ev (fun k => sortAll k out) (out.map isoL) := by
  intro out
  induction out with
  | nil => intro _; exact Ev.now _
  | cons x out ih =>
    intro h
    have hx := h x (by simp)
    have hl := LevOk.len hn hx
    refine Ev.bind (sort_ev (by omega) hx.2) ?_
    exact Ev.bind (ih (fun z hz => h z (by simp [hz]))) (Ev.now _)
/-- both tell the same levels -/
theorem levels_both {a : Int} {l : List Int} (h : isLadderB a l = true) : ∃ r, Ev (fun k => spec_lvOf.f k a l) r ∧ Ev (fun k => impl_levelsOf.f k a l) r ∧ r.length ≤ l.length ∧ ∀ x ∈ r, x.length ≤ 8 := by
  have hl := (isLadderB_iff a l).1 h
  obtain ⟨n, rfl⟩ : ∃ n : Nat, a = n := ⟨a.toNat, by omega⟩
  have hn : n ≤ 8 := by omega
  have hx : ∀ x ∈ l, 0 ≤ x ∧ x ≤ (n : Int) - 2 := hl.2.2.2
  have hok0 : LevOk n [] := fun _ h => by cases h
  obtain ⟨hok, hlen⟩ := lvPuts_ok hn l [] hx hok0
  refine ⟨(lvPuts [] l).map isoL, ?_, ?_, by simpa using hlen, fun x hx2 => ?_⟩
  · unfold spec_lvOf.f
    have g : (0 : Int) ≤ (n : Int) ∧ (n : Int) ≤ 1000 ∧ l.length ≤ 1000 := ⟨by omega, by omega, by omega⟩
    simp only [g, and_self, if_true, Int.toNat_natCast]
    refine lvoGo_ev hn l (List.replicate n 0) [] hx hok0 ⟨List.length_replicate, fun c hc => ?_⟩
    rw [List.getD_eq_getElem?_getD, List.getElem?_replicate, if_pos hc]; rfl
  · unfold impl_levelsOf.f
    have g : l.length ≤ 1000 := by omega
    simp only [g, if_true]
    exact sortAll_ev hn _ hok
  · obtain ⟨y, hy, rfl⟩ := List.mem_map.1 hx2
    rw [(isoL_spec _ y rfl).2.1]
    exact LevOk.len hn (hok y hy)
end Go.Proofs.Ytkbojnmepapkhaa.Q
