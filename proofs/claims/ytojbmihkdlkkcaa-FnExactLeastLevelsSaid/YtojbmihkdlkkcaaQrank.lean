/- The reference's list of all orders, and the rank of each. No program, no memory. -/
import Derived.Test.YtojbmihkdlkkcaaB1
import Derived.Test.YtojbmihkdlkkcaaQord
import Derived.Test.YtojbmihkdlkkcaaQhas
import Derived.Test.YtojbmihkdlkkcaaQlvAll
import Derived.Test.YtojbmihkdlkkcaaQlvTop
namespace Go.Proofs.Ytojbmihkdlkkcaa.Q
open Go.RowKit Go.Proofs.Ytojbmihkdlkkcaa.B Go.Proofs.YtojbmihkdlkkcaaW.PrintWords Go.Proofs.YtojbmihkdlkkcaaW.PrintLast Go.Proofs.YtojbmihkdlkkcaaW.PrintMore
set_option linter.unusedVariables false
set_option linter.unusedSimpArgs false
def lessN (x : Int) (l : List Int) : Nat := (l.filter fun y => decide (y < x)).length
def rankG : List Int → Nat → Nat
  | [], r => r
  | x :: l, r => rankG l (r * (l.length + 1) + lessN x l)
def rankL (p : List Int) : Nat := rankG p 0
def extL (n : Nat) (ps : List (List Int)) : List (List Int) := ps.flatMap fun p => ((List.range n).filter fun x => !decide (((x : Nat) : Int) ∈ p)).map fun x => p ++ [((x : Nat) : Int)]
def ordL (n : Nat) : Nat → List (List Int)
  | 0 => [[]]
  | j + 1 => extL n (ordL n j)
/-- all orders of so many numbers -/
def allO (n : Nat) : List (List Int) := ordL n n
theorem ordL_small : (List.range 7).all (fun n => (List.range (n + 1)).all fun j => decide ((ordL n j).length ≤ 1000) && (match ordL n j with | [] => false | p :: _ => p.length == j)) = true := by decide +kernel
theorem allO_ranks : (List.range 7).all (fun n => (allO n).map rankL == List.range (allO n).length) = true := by decide +kernel
theorem ordL_head (n j : Nat) (hn : n ≤ 6) (hj : j ≤ n) : (ordL n j).length ≤ 1000 ∧ ∃ p ps, ordL n j = p :: ps ∧ p.length = j := by
  have h := List.all_eq_true.1 (List.all_eq_true.1 ordL_small n (by simp; omega)) j (by simp; omega)
  rw [Bool.and_eq_true] at h
  refine ⟨of_decide_eq_true h.1, ?_⟩
  cases e : ordL n j with
  | nil => rw [e] at h; cases h.2
  | cons p ps => rw [e] at h; exact ⟨p, ps, rfl, by simpa using h.2⟩
theorem ordL_mem (n : Nat) : ∀ (j : Nat) (p : List Int), p ∈ ordL n j ↔ (p.length = j ∧ p.Nodup ∧ ∀ x, x ∈ p → 0 ≤ x ∧ x < (n : Int))
  | 0, p => by
    simp only [ordL, List.mem_singleton]
    constructor
    · rintro rfl; simp
    · rintro ⟨h, _⟩; exact List.eq_nil_of_length_eq_zero h
  | j + 1, p => by
    simp only [ordL, extL, List.mem_flatMap, List.mem_map, List.mem_filter, List.mem_range]
    constructor
    · rintro ⟨q, hq, x, ⟨hx, hn⟩, rfl⟩
      obtain ⟨a, b, c⟩ := (ordL_mem n j q).1 hq
      have hn2 : ¬ ((x : Nat) : Int) ∈ q := by simpa using hn
      refine ⟨by simp [a], ?_, fun y hy => ?_⟩
      · rw [List.nodup_append]
        refine ⟨b, by simp, fun y hy z hz e => ?_⟩
        rw [List.mem_singleton] at hz
        exact hn2 (by rw [← hz, ← e]; exact hy)
      · rw [List.mem_append] at hy
        rcases hy with hy | hy
        · exact c y hy
        · rw [List.mem_singleton] at hy
          omega
    · rintro ⟨a, b, c⟩
      obtain ⟨q, y, rfl⟩ : ∃ q y, p = q ++ [y] := ⟨p.dropLast, p.getLast (by intro e; rw [e] at a; cases a), (List.dropLast_concat_getLast _).symm⟩
      rw [List.nodup_append] at b
      have hy := c y (by simp)
      refine ⟨q, (ordL_mem n j q).2 ⟨by simpa using a, b.1, fun x hx => c x (by simp [hx])⟩, y.toNat, ⟨by omega, ?_⟩, ?_⟩
      · have : ¬ y ∈ q := fun h => b.2.2 y h y (by simp) rfl
        rw [show ((y.toNat : Nat) : Int) = y by omega]
        simp [this]
      · rw [show ((y.toNat : Nat) : Int) = y by omega]
theorem allO_mem (n : Nat) (p : List Int) : p ∈ allO n ↔ isOrd n p := ordL_mem n n p
theorem allO_rank {n : Nat} (hn : n ≤ 6) {i : Nat} (hi : i < (allO n).length) : rankL (allO n)[i] = i := by
  have h := List.all_eq_true.1 allO_ranks n (by simp; omega)
  have h2 := eq_of_beq h
  have h3 : ((allO n).map rankL)[i]? = (List.range (allO n).length)[i]? := by rw [h2]
  rw [List.getElem?_map, List.getElem?_eq_getElem hi, List.getElem?_range hi] at h3
  simpa using h3
theorem allO_at {n : Nat} (hn : n ≤ 6) {p : List Int} (hp : isOrd n p) : (allO n)[rankL p]? = some p := by
  obtain ⟨i, hi, rfl⟩ := List.getElem_of_mem ((allO_mem n p).2 hp)
  rw [allO_rank hn hi, List.getElem?_eq_getElem hi]
theorem allO_nodup {n : Nat} (hn : n ≤ 6) : (allO n).Nodup := by
  rw [List.nodup_iff_pairwise_ne, List.pairwise_iff_getElem]
  intro i j hi hj hij e
  have h1 := allO_rank hn hi
  rw [e, allO_rank hn hj] at h1
  omega
theorem rank_lt {n : Nat} (hn : n ≤ 6) {p : List Int} (hp : isOrd n p) : rankL p < (allO n).length := (List.getElem?_eq_some_iff.1 (allO_at hn hp)).1
theorem rank_inj {n : Nat} (hn : n ≤ 6) {p q : List Int} (hp : isOrd n p) (hq : isOrd n q) (e : rankL p = rankL q) : p = q := by
  have h := allO_at hn hp
  rw [e, allO_at hn hq] at h
  injection h with h
  exact h.symm
theorem lessN_le (x : Int) (l : List Int) : lessN x l ≤ l.length := List.length_filter_le _ _
theorem lessN_cons (x y : Int) (l : List Int) : lessN x (y :: l) = (if y < x then 1 else 0) + lessN x l := by
  unfold lessN
  rw [List.filter_cons]
  by_cases h : y < x
  · simp [h]; omega
  · simp [h]
theorem wrap_small (m : Nat) (h : m ≤ 1000000000) : wrap64 (m : Int) = (m : Int) := by unfold wrap64; omega
theorem alRank_l1 (p : List Int) (r i : Int) (x : Int) (l : List Int) (j : Int) (n : Int) (tl : List Int) (hl : tl.length ≤ 1000) (v : Int) (d : Nat) : ∀ (q : Nat) (c : Nat), q + d = tl.length → c ≤ q → 
    Ev (fun k => spec_alRank.l0 k p (wrap64 ((wrap64 (r * (wrap64 ((p.length : Int) - i)))) + ((c + lessN x (tl.drop q) : Nat) : Int))) l n (wrap64 (j + 1))) v → Ev (fun k => spec_alRank.l1 k p r i x (c : Int) l n j tl (tl.length : Int) (q : Int)) v := by
  induction d with
  | zero =>
    intro q c hq _ h
    refine Ev.succ ?_
    have g1 : ¬ (q : Int) < (tl.length : Int) := by omega
    simp only [spec_alRank.l1, g1, if_false]
    rw [List.drop_eq_nil_of_le (by omega)] at h
    simpa [lessN] using h
  | succ d ih =>
    intro q c hq hc h
    have hql : q < tl.length := by omega
    refine Ev.succ ?_
    have g1 : (q : Int) < (tl.length : Int) := by omega
    have g2 : (0 : Int) ≤ (q : Int) := by omega
    simp only [spec_alRank.l1, g1, g2, if_true, rd_nat tl q hql, wrap_nat q tl.length hql (by omega)]
    rw [List.drop_eq_getElem_cons hql] at h
    refine Ev.ite (fun hlt => ?_) (fun hlt => ?_)
    · rw [wrap_nat c 2000 (by omega) (by omega)]
      refine ih (q + 1) (c + 1) (by omega) (by omega) ?_
      rw [lessN_cons, if_pos hlt, ← Nat.add_assoc] at h
      exact h
    · refine ih (q + 1) c (by omega) (by omega) ?_
      rw [lessN_cons, if_neg hlt, Nat.zero_add] at h
      exact h
theorem alRank_l0 (p : List Int) (hp : p.length ≤ 8) (d : Nat) : ∀ (i : Nat) (r : Nat), i + d = p.length → r < 9 ^ i → Ev (fun k => spec_alRank.l0 k p (r : Int) p (p.length : Int) (i : Int)) ((rankG (p.drop i) r : Nat) : Int) := by
  induction d with
  | zero =>
    intro i r hi _
    refine Ev.succ (Ev.ret fun k => ?_)
    rw [spec_alRank.l0, if_neg (by omega), List.drop_eq_nil_of_le (by omega)]
    rfl
  | succ d ih =>
    intro i r hi hr
    have hil : i < p.length := by omega
    refine Ev.succ ?_
    have g1 : (i : Int) < (p.length : Int) := by omega
    have g2 : (0 : Int) ≤ (i : Int) := by omega
    have g3 : (0 : Int) ≤ ((i + 1 : Nat) : Int) := by omega
    have g4 : ((i + 1 : Nat) : Int) ≤ (p.length : Int) := by omega
    simp only [spec_alRank.l0, g1, g2, if_true, wrap_nat i p.length hil (by omega), g3, g4, rd_nat p i hil]
    rw [show (((i + 1 : Nat) : Int)).toNat = i + 1 from rfl]
    have h9 : (9 : Nat) ^ i ≤ 9 ^ 8 := Nat.pow_le_pow_right (by decide) (by omega)
    rw [show (9 : Nat) ^ 8 = 43046721 by decide] at h9
    have hP : (9 : Nat) ^ (i + 1) = 9 ^ i * 9 := Nat.pow_succ ..
    obtain ⟨P, eP⟩ : ∃ P, (9 : Nat) ^ i = P := ⟨_, rfl⟩
    rw [eP] at hr h9 hP
    have hls := lessN_le p[i] (p.drop (i + 1))
    have hdl : (p.drop (i + 1)).length = p.length - (i + 1) := List.length_drop ..
    refine alRank_l1 p (r : Int) (i : Int) p[i] p (i : Int) (p.length : Int) (p.drop (i + 1)) (by omega) _ (p.drop (i + 1)).length 0 0 (by omega) (by omega) ?_
    have hmul : r * (p.length - i) ≤ r * 8 := Nat.mul_le_mul_left _ (by omega)
    have e1 : wrap64 ((p.length : Int) - (i : Int)) = ((p.length - i : Nat) : Int) := by
      rw [← wrap_small (p.length - i) (by omega)]
      congr 1
      omega
    rw [e1, List.drop_zero, Nat.zero_add, ← Int.natCast_mul, wrap_small (r * (p.length - i)) (by omega), ← Int.natCast_add, wrap_small (r * (p.length - i) + lessN p[i] (p.drop (i + 1))) (by omega), wrap_nat i p.length hil (by omega)]
    refine Ev.eq (ih (i + 1) _ (by omega) (by rw [hP]; omega)) ?_
    rw [List.drop_eq_getElem_cons hil, rankG, hdl, show p.length - (i + 1) + 1 = p.length - i by omega]
theorem alRank_ev (p : List Int) (hp : p.length ≤ 8) : Ev (fun k => spec_alRank.f k p) ((rankL p : Nat) : Int) := by
  unfold spec_alRank.f
  have := alRank_l0 p hp p.length 0 0 (by omega) (by simp)
  rw [List.drop_zero] at this
  exact this
theorem alOrders_l2 (n : Nat) (hn : n ≤ 6) (ps : List (List Int)) (i : Nat) (p : List Int) (hp : p.length ≤ 100) (v : List (List Int)) (d : Nat) : ∀ (x : Nat) (acc : List (List Int)), x + d = n → acc.length + d ≤ 100000 →
    Ev (fun k => spec_alOrders.l1 k (n : Int) (acc ++ ((List.range' x d).filter fun x => !decide (((x : Nat) : Int) ∈ p)).map fun x => p ++ [((x : Nat) : Int)]) ps (ps.length : Int) (wrap64 ((i : Int) + 1))) v → Ev (fun k => spec_alOrders.l2 k (n : Int) acc p (x : Int) ps (ps.length : Int) (i : Int)) v := by
  induction d with
  | zero =>
    intro x acc hx _ h
    refine Ev.succ ?_
    have g1 : ¬ (x : Int) < (n : Int) := by omega
    simp only [spec_alOrders.l2, g1, if_false]
    simpa using h
  | succ d ih =>
    intro x acc hx hl h
    refine Ev.succ ?_
    have g1 : (x : Int) < (n : Int) := by omega
    simp only [spec_alOrders.l2, g1, if_true, wrap_nat x n (by omega) (by omega)]
    refine Ev.bind (l1Has_ev p (x : Int) (by omega)) ?_
    rw [List.range'_succ] at h
    by_cases hm : (x : Int) ∈ p
    · simp only [hm, decide_true, if_true]
      refine ih (x + 1) acc (by omega) (by omega) ?_
      rw [List.filter_cons_of_neg (by simp [hm])] at h
      exact h
    · have g2 : p.length < 17592186044416 := by omega
      have g3 : acc.length < 5864062014805 := by omega
      simp only [hm, decide_false, Bool.false_eq_true, if_false, l1Own_f p (by omega), Option.bind_some, g2, g3, if_true]
      refine ih (x + 1) _ (by omega) (by simp; omega) ?_
      rw [List.filter_cons_of_pos (by simp [hm]), List.map_cons] at h
      rw [List.append_assoc]
      exact h
theorem alOrders_l1 (n : Nat) (hn : n ≤ 6) (ps : List (List Int)) (hps : ps.length ≤ 1000) (hs : ∀ p, p ∈ ps → p.length ≤ 100) (v : List (List Int)) (d : Nat) : ∀ (i : Nat) (acc : List (List Int)), i + d = ps.length → acc.length + 10 * d ≤ 90000 →
    Ev (fun k => spec_alOrders.l0 k (n : Int) (acc ++ extL n (ps.drop i))) v → Ev (fun k => spec_alOrders.l1 k (n : Int) acc ps (ps.length : Int) (i : Int)) v := by
  induction d with
  | zero =>
    intro i acc hi _ h
    refine Ev.succ ?_
    have g1 : ¬ (i : Int) < (ps.length : Int) := by omega
    simp only [spec_alOrders.l1, g1, if_false]
    rw [List.drop_eq_nil_of_le (by omega)] at h
    simpa [extL] using h
  | succ d ih =>
    intro i acc hi hl h
    have hil : i < ps.length := by omega
    refine Ev.succ ?_
    have g1 : (i : Int) < (ps.length : Int) := by omega
    have g2 : (0 : Int) ≤ (i : Int) := by omega
    simp only [spec_alOrders.l1, g1, g2, if_true, rd_rows ps i hil]
    refine alOrders_l2 n hn ps i ps[i] (hs _ (List.getElem_mem hil)) v n 0 acc (by omega) (by omega) ?_
    rw [wrap_nat i ps.length hil (by omega)]
    have hfl := List.length_filter_le (fun x : Nat => !decide (((x : Nat) : Int) ∈ ps[i])) (List.range' 0 n)
    rw [List.length_range'] at hfl
    refine ih (i + 1) _ (by omega) (by rw [List.length_append, List.length_map]; omega) ?_
    rw [List.drop_eq_getElem_cons hil] at h
    rw [List.append_assoc, ← List.range_eq_range']
    exact h
theorem alOrders_ev (n : Nat) (hn : n ≤ 6) : Ev (fun k => spec_alOrders.f k (n : Int)) (allO n) := by
  unfold spec_alOrders.f
  have key : ∀ (d j : Nat), j + d = n → Ev (fun k => spec_alOrders.l0 k (n : Int) (ordL n j)) (allO n) := by
    intro d
    induction d with
    | zero =>
      intro j hj
      obtain ⟨hl, p, ps, e, hp⟩ := ordL_head n j hn (by omega)
      refine Ev.succ (Ev.ret fun k => ?_)
      have g1 : 0 < ((ordL n j).length : Int) := by rw [e, List.length_cons]; omega
      have g2 : ¬ ((rd_L1 (ordL n j) 0).length : Int) < (n : Int) := by
        rw [e]
        show ¬ ((p.length : Nat) : Int) < _
        omega
      rw [spec_alOrders.l0, if_pos g1, if_neg g2]
      rw [show j = n by omega]
      rfl
    | succ d ih =>
      intro j hj
      obtain ⟨hl, p, ps, e, hp⟩ := ordL_head n j hn (by omega)
      refine Ev.succ ?_
      have g1 : 0 < ((ordL n j).length : Int) := by rw [e, List.length_cons]; omega
      have g2 : ((rd_L1 (ordL n j) 0).length : Int) < (n : Int) := by
        rw [e]
        show ((p.length : Nat) : Int) < _
        omega
      simp only [spec_alOrders.l0, g1, g2, if_true]
      refine alOrders_l1 n hn (ordL n j) hl (fun q hq => by have := ((ordL_mem n j q).1 hq).1; omega) _ (ordL n j).length 0 [] (by omega) (by simp; omega) ?_
      rw [List.drop_zero, List.nil_append]
      exact ih (j + 1) (by omega)
  exact key n 0 (by omega)
end Go.Proofs.Ytojbmihkdlkkcaa.Q
