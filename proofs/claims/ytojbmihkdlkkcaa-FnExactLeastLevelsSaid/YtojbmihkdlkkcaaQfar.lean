/- The least depths of all orders by their ranks: as the reference looks for them. No program's memory. -/
import Derived.Test.YtojbmihkdlkkcaaB1
import Derived.Test.YtojbmihkdlkkcaaB2
import Derived.Test.YtojbmihkdlkkcaaQdep
namespace Go.Proofs.Ytojbmihkdlkkcaa.Q
open Go.RowKit Go.Proofs.Ytojbmihkdlkkcaa.B Go.Proofs.YtojbmihkdlkkcaaW.PrintWords Go.Proofs.YtojbmihkdlkkcaaW.PrintLast Go.Proofs.YtojbmihkdlkkcaaW.PrintMore
set_option linter.unusedVariables false
set_option linter.unusedSimpArgs false
def lookF (q : List (List Int × Int)) (p : List Int) : Int := match q.find? (fun e => decide (e.1 = p)) with | some e => e.2 | none => -1
def farQ (n : Nat) (q : List (List Int × Int)) : List Int := (allO n).map (lookF q)
def rkQ (q : List (List Int × Int)) : List Int := q.map fun e => ((rankL e.1 : Nat) : Int)
theorem find_mem {n : Nat} {q : List (List Int × Int)} (hg : GoodQ n q) {e : List Int × Int} (he : e ∈ q) : q.find? (fun a => decide (a.1 = e.1)) = some e := by
  have nd := hg.nd
  clear hg
  induction q with
  | nil => cases he
  | cons a q ih =>
    rw [List.map_cons, List.nodup_cons] at nd
    rcases List.mem_cons.1 he with rfl | h
    · rw [List.find?_cons_of_pos (by simp)]
    · rw [List.find?_cons_of_neg, ih h nd.2]
      intro e1
      have e2 : a.1 = e.1 := of_decide_eq_true e1
      exact nd.1 (List.mem_map.2 ⟨e, h, e2.symm⟩)
theorem lookF_mem {n : Nat} {q : List (List Int × Int)} (hg : GoodQ n q) {e : List Int × Int} (he : e ∈ q) : lookF q e.1 = e.2 := by
  unfold lookF
  rw [find_mem hg he]
theorem lookD_mem {n : Nat} {q : List (List Int × Int)} (hg : GoodQ n q) {e : List Int × Int} (he : e ∈ q) : lookD q e.1 = e.2 := by
  unfold lookD
  rw [find_mem hg he]
theorem lookF_none {q : List (List Int × Int)} {p : List Int} (h : q.any (fun e => decide (e.1 = p)) = false) : lookF q p = -1 := by
  unfold lookF
  have : q.find? (fun e => decide (e.1 = p)) = none := by
    rw [List.find?_eq_none]
    rw [List.any_eq_false] at h
    exact h
  rw [this]
theorem lookF_neg {n : Nat} {q : List (List Int × Int)} (hg : GoodQ n q) (p : List Int) : lookF q p < 0 ↔ q.any (fun e => decide (e.1 = p)) = false := by
  constructor
  · intro h
    rw [← Bool.not_eq_true, List.any_eq_true]
    rintro ⟨e, he, e1⟩
    have e2 : e.1 = p := of_decide_eq_true e1
    rw [← e2, lookF_mem hg he] at h
    obtain ⟨j, hj⟩ := List.getElem?_of_mem he
    have := (hg.dep j e hj).1
    omega
  · intro h
    rw [lookF_none h]
    decide
theorem far_at {n : Nat} (hn : n ≤ 6) (q : List (List Int × Int)) {p : List Int} (hp : isOrd n p) : rd (farQ n q) ((rankL p : Nat) : Int) = lookF q p := by
  unfold rd farQ
  rw [List.getD_eq_getElem?_getD, List.getElem?_map]
  show (Option.map (lookF q) (allO n)[rankL p]?).getD 0 = _
  rw [allO_at hn hp]
  rfl
theorem far_put {n : Nat} (hn : n ≤ 6) (q : List (List Int × Int)) {x : List Int} (hx : isOrd n x) (v : Int) (hm : q.any (fun e => decide (e.1 = x)) = false) : farQ n (q ++ [(x, v)]) = (farQ n q).set (rankL x) v := by
  unfold farQ
  apply List.ext_getElem (by simp)
  intro j h1 h2
  rw [List.getElem_set, List.getElem_map, List.getElem_map]
  have hj : j < (allO n).length := by simpa using h1
  by_cases e : rankL x = j
  · rw [if_pos e]
    have h3 := allO_at hn hx
    rw [e, List.getElem?_eq_getElem hj] at h3
    injection h3 with h3
    rw [h3]
    unfold lookF
    have h4 : q.find? (fun e => decide (e.1 = x)) = none := by
      rw [List.find?_eq_none]
      rw [List.any_eq_false] at hm
      exact hm
    rw [List.find?_append, h4]
    simp
  · rw [if_neg e]
    have h3 : (allO n)[j] ≠ x := by
      intro h3
      have := allO_rank hn hj
      rw [h3] at this
      exact e this
    unfold lookF
    rw [List.find?_append]
    cases q.find? (fun e => decide (e.1 = (allO n)[j])) with
    | some a => rfl
    | none => simp [show ¬ x = (allO n)[j] from fun e2 => h3 e2.symm]
theorem rows_lva (n : Nat) (hn : n ≤ 6) : rowsL n = lva (n - 1) 4 0 := AllLevels_list n (by omega)
theorem rowsL_le (n : Nat) (hn : n ≤ 6) : (rowsL n).length ≤ 1000 := of_decide_eq_true (List.all_eq_true.1 rowsL_small n (by simp; omega))
theorem lvFar_l2 (n : Nat) (hn : n ≤ 6) (i : Nat) (a : List Int × Int) (R : List Int) (d : Nat) : ∀ (j : Nat) (q : List (List Int × Int)), j + d = (rowsL n).length → GoodQ n q → q[i]? = some a →
    Ev (fun k => spec_lvFar.l1 k (allO n) (farQ n (sIn a.1 (a.2 + 1) ((rowsL n).drop j) q)) (rkQ (sIn a.1 (a.2 + 1) ((rowsL n).drop j) q)) (rowsL n) (wrap64 ((i : Int) + 1))) R →
    Ev (fun k => spec_lvFar.l2 k (allO n) (farQ n q) (rkQ q) (rowsL n) (i : Int) (rowsL n) ((rowsL n).length : Int) (j : Int)) R := by
  have hll := rowsL_le n hn
  induction d with
  | zero =>
    intro j q hj _ _ h
    refine Ev.succ ?_
    have g1 : ¬ (j : Int) < ((rowsL n).length : Int) := by omega
    simp only [spec_lvFar.l2, g1, if_false]
    rw [List.drop_eq_nil_of_le (by omega)] at h
    exact h
  | succ d ih =>
    intro j q hj hg ha h
    have hjl : j < (rowsL n).length := by omega
    have hl := rows_ok hn (List.getElem_mem hjl)
    have hi := (List.getElem?_eq_some_iff.1 ha).1
    have ho := hg.ord a (List.mem_of_getElem? ha)
    have hd := hg.dep i a ha
    have hq := hg.le hn
    have hx := topL_isOrd (rowsL n)[j] ho hl.2
    have hal := allO_le hn
    have hr1 := rank_lt hn ho
    have hr2 := rank_lt hn hx
    have hfl : ∀ q, (farQ n q).length = (allO n).length := fun q => by simp [farQ]
    have hrl : (rkQ q).length = q.length := by simp [rkQ]
    have hra : rd (rkQ q) (i : Int) = ((rankL a.1 : Nat) : Int) := by
      rw [rd_nat (rkQ q) i (by omega)]
      unfold rkQ
      rw [List.getElem_map]
      have : q[i] = a := by rw [List.getElem?_eq_getElem hi] at ha; injection ha
      rw [this]
    have hre : rd_L1 (allO n) ((rankL a.1 : Nat) : Int) = a.1 := by
      rw [rd_rows _ _ hr1]
      have := allO_at hn ho
      rw [List.getElem?_eq_getElem hr1] at this
      injection this
    refine Ev.succ ?_
    have g1 : (j : Int) < ((rowsL n).length : Int) := by omega
    have g2 : (0 : Int) ≤ (j : Int) := by omega
    have g3 : (0 : Int) ≤ (i : Int) := by omega
    have g4 : (i : Int) < ((rkQ q).length : Int) := by omega
    have g5 : (0 : Int) ≤ ((rankL a.1 : Nat) : Int) := by omega
    have g6 : ((rankL a.1 : Nat) : Int) < ((allO n).length : Int) := by omega
    simp only [spec_lvFar.l2, g1, g2, g3, g4, if_true, hra, g5, g6, hre, rd_rows (rowsL n) j hjl, wrap_nat j _ hjl (by omega)]
    refine Ev.bind (lvTop_ev a.1 (rowsL n)[j] (by have := ho.1; omega) (by omega) (by rw [ho.1]; exact hl.2)) ?_
    refine Ev.bind (alRank_ev _ (by have := hx.1; omega)) ?_
    have g7 : (0 : Int) ≤ ((rankL (topL a.1 (rowsL n)[j]) : Nat) : Int) := by omega
    have g8 : ((rankL (topL a.1 (rowsL n)[j]) : Nat) : Int) < ((farQ n q).length : Int) := by rw [hfl]; omega
    have g9 : ((rankL a.1 : Nat) : Int) < ((farQ n q).length : Int) := by rw [hfl]; omega
    have g10 : (rkQ q).length < 17592186044416 := by omega
    simp only [g7, g8, g9, g10, if_true, far_at hn q hx, far_at hn q ho, lookF_mem hg (List.mem_of_getElem? ha)]
    rw [List.drop_eq_getElem_cons hjl] at h
    unfold sIn at h
    rw [List.foldl_cons] at h
    have e1 : wrap64 (a.2 + 1) = a.2 + 1 := wrap_in (by omega) (by omega)
    cases hm : q.any (fun e => decide (e.1 = topL a.1 (rowsL n)[j])) with
    | false =>
      have hlt := (lookF_neg hg _).2 hm
      simp only [hlt, if_true, e1]
      have e2 : putD (topL a.1 (rowsL n)[j]) (a.2 + 1) q = q ++ [(topL a.1 (rowsL n)[j], a.2 + 1)] := by unfold putD; rw [hm]; rfl
      rw [e2] at h
      have h3 := ih (j + 1) (q ++ [(topL a.1 (rowsL n)[j], a.2 + 1)]) (by omega) (by rw [← e2]; exact hg.put hx (by omega) (by omega)) (by rw [List.getElem?_append_left hi]; exact ha) h
      rw [far_put hn q hx (a.2 + 1) hm] at h3
      have e3 : rkQ (q ++ [(topL a.1 (rowsL n)[j], a.2 + 1)]) = rkQ q ++ [((rankL (topL a.1 (rowsL n)[j]) : Nat) : Int)] := by simp [rkQ]
      rw [e3] at h3
      exact h3
    | true =>
      have hnl : ¬ lookF q (topL a.1 (rowsL n)[j]) < 0 := fun h2 => by rw [(lookF_neg hg _).1 h2] at hm; cases hm
      simp only [hnl, if_false]
      have e2 : putD (topL a.1 (rowsL n)[j]) (a.2 + 1) q = q := by unfold putD; rw [hm]; rfl
      rw [e2] at h
      exact ih (j + 1) q (by omega) hg ha h
theorem lvFar_l1 (n : Nat) (hn : n ≤ 6) : ∀ (f i : Nat) (q : List (List Int × Int)), i + f = 1001 → GoodQ n q → Ev (fun k => spec_lvFar.l1 k (allO n) (farQ n q) (rkQ q) (rowsL n) (i : Int)) (farQ n (sF (rowsL n) f i q))
  | 0, i, q, hf, hg => by
    have hl := hg.le hn
    have hrl : (rkQ q).length = q.length := by simp [rkQ]
    refine Ev.succ (Ev.ret fun k => ?_)
    rw [spec_lvFar.l1, if_neg (by omega)]
    rfl
  | f + 1, i, q, hf, hg => by
    have hl := hg.le hn
    have hrl : (rkQ q).length = q.length := by simp [rkQ]
    cases e : q[i]? with
    | none =>
      have h1 := List.getElem?_eq_none_iff.1 e
      rw [sF_none e]
      refine Ev.succ (Ev.ret fun k => ?_)
      rw [spec_lvFar.l1, if_neg (by omega)]
    | some a =>
      have hi := (List.getElem?_eq_some_iff.1 e).1
      rw [sF_some e]
      refine Ev.succ ?_
      have g1 : (i : Int) < ((rkQ q).length : Int) := by omega
      simp only [spec_lvFar.l1, g1, if_true]
      refine lvFar_l2 n hn i a _ (rowsL n).length 0 q (by omega) hg e ?_
      rw [List.drop_zero, wrap_nat i 2000 (by omega) (by omega)]
      exact lvFar_l1 n hn f (i + 1) _ (by omega) (sIn_of n hn hg e).1
theorem lvFar_l0 (n : Nat) (hn1 : 2 ≤ n) (hn : n ≤ 6) (d : Nat) : ∀ j, j + d = (allO n).length → Ev (fun k => spec_lvFar.l0 k (n : Int) (allO n) (List.replicate j (-1) ++ List.replicate d 0) ((allO n).length : Int) (j : Int)) (farQ n (depQ n)) := by
  have hal := allO_le hn
  induction d with
  | zero =>
    intro j hj
    obtain ⟨_, p, ps, ep, _⟩ := ordL_head n n hn (Nat.le_refl _)
    have ep : allO n = p :: ps := ep
    refine Ev.succ ?_
    have g1 : ¬ (j : Int) < ((allO n).length : Int) := by omega
    have g2 : 0 < ((List.replicate j (-1 : Int) ++ List.replicate 0 0).length : Int) := by
      rw [ep] at hj
      simp only [List.length_append, List.length_replicate, List.length_cons] at hj ⊢
      omega
    simp only [spec_lvFar.l0, g1, g2, if_true, if_false]
    refine Ev.bind (lvAll_ev n hn1 (by omega) 4 0 (by omega) (by omega) (by omega)) ?_
    rw [← rows_lva n hn]
    have e0 : rankL (idL n) = 0 := by
      have : (List.range 7).all (fun n => rankL (idL n) == 0) = true := by decide +kernel
      have := List.all_eq_true.1 this n (by simp; omega)
      exact eq_of_beq this
    have e1 : (List.replicate j (-1 : Int) ++ List.replicate 0 0).set (0 : Int).toNat 0 = farQ n [(idL n, 0)] := by
      have h := far_put hn [] (idL_isOrd n) 0 rfl
      rw [List.nil_append, e0] at h
      rw [h]
      have h2 : farQ n [] = List.replicate j (-1) := by
        unfold farQ
        rw [List.eq_replicate_iff]
        refine ⟨by simp; omega, fun b hb => ?_⟩
        rw [List.mem_map] at hb
        obtain ⟨x, _, rfl⟩ := hb
        rfl
      rw [h2]
      simp
    have e2 : ([0] : List Int) = rkQ [(idL n, 0)] := by simp [rkQ, e0]
    rw [e1, e2]
    exact lvFar_l1 n hn 1001 0 _ (by omega) (start_good n)
  | succ d ih =>
    intro j hj
    refine Ev.succ ?_
    have g1 : (j : Int) < ((allO n).length : Int) := by omega
    have g2 : (0 : Int) ≤ (j : Int) := by omega
    have g3 : (j : Int) < ((List.replicate j (-1 : Int) ++ List.replicate (d + 1) 0).length : Int) := by simp; omega
    simp only [spec_lvFar.l0, g1, g2, g3, if_true, wrap_nat j (allO n).length (by omega) (by omega)]
    refine Ev.congr (fun k => ?_) (ih (j + 1) (by omega))
    congr 1
    rw [show ((j : Int)).toNat = j from rfl, List.set_append_right _ _ (by simp), List.length_replicate, Nat.sub_self, List.replicate_succ, List.set_cons_zero, List.replicate_succ', List.append_assoc]
    rfl
theorem lvFar_ev (n : Nat) (hn1 : 2 ≤ n) (hn : n ≤ 6) : Ev (fun k => spec_lvFar.f k (n : Int)) (farQ n (depQ n)) := by
  unfold spec_lvFar.f
  refine Ev.bind (alOrders_ev n hn) ?_
  have hal := allO_le hn
  have g1 : (0 : Int) ≤ ((allO n).length : Int) := by omega
  have g2 : (((allO n).length : Int)).toNat ≤ 35184372088832 := by omega
  simp only [g1, g2, if_true, Option.bind_some, List.length_replicate]
  have := lvFar_l0 n hn1 hn (allO n).length 0 (by omega)
  rw [List.replicate_zero, List.nil_append] at this
  exact this
/-- both agree at each order -/
theorem look_both (n : Nat) (hn : n ≤ 6) {p : List Int} (hp : isOrd n p) : lookD (depQ n) p = lookF (depQ n) p := by
  have h := depQ_all n hn hp
  rw [List.mem_map] at h
  obtain ⟨e, he, rfl⟩ := h
  rw [lookD_mem (depQ_good n hn) he, lookF_mem (depQ_good n hn) he]
/-- the depths, in whatever order -/
theorem far_perm (n : Nat) (hn : n ≤ 6) : ((depQ n).map (·.2)).Perm (farQ n (depQ n)) := by
  have hg := depQ_good n hn
  have h1 : ((depQ n).map (·.1)).Perm (allO n) := by
    refine sub_perm hg.nd (fun x hx => ?_) ?_
    · rw [List.mem_map] at hx
      obtain ⟨e, he, rfl⟩ := hx
      exact (allO_mem n _).2 (hg.ord e he)
    · exact sub_le (allO_nodup hn) (fun x hx => depQ_all n hn ((allO_mem n x).1 hx))
  have h2 := h1.map (lookF (depQ n))
  have h3 : ((depQ n).map (·.1)).map (lookF (depQ n)) = (depQ n).map (·.2) := by
    rw [List.map_map]
    exact List.map_congr_left (fun e he => lookF_mem hg he)
  rw [h3] at h2
  exact h2
end Go.Proofs.Ytojbmihkdlkkcaa.Q
