/- The pure statement of FnExactCountDepths: the program's CountDepths and the reference's give the same. Conditions: none beyond the law's own. -/
import Derived.Test.YtojbmihkdlkkcaaB3
import Derived.Test.YtojbmihkdlkkcaaQfar
import Derived.Test.YtojbmihkdlkkcaaQl1In
import Derived.Test.YtojbmihkdlkkcaaQeqIntS
import Derived.Test.YtojbmihkdlkkcaaQmark
namespace Go.Proofs.Ytojbmihkdlkkcaa.Q
open Go.RowKit Go.Proofs.Ytojbmihkdlkkcaa.B Go.Proofs.YtojbmihkdlkkcaaW.PrintWords Go.Proofs.YtojbmihkdlkkcaaW.PrintLast Go.Proofs.YtojbmihkdlkkcaaW.PrintMore
set_option linter.unusedVariables false
set_option linter.unusedSimpArgs false
def depC (n : Nat) : List Int := (farQ n (depQ n)).foldl bump []
theorem far_in {n : Nat} (hn : n ≤ 6) {x : Int} (hx : x ∈ farQ n (depQ n)) : 0 ≤ x ∧ x ≤ 1000 := by
  have hg := depQ_good n hn
  have := (far_perm n hn).symm.mem_iff.1 hx
  rw [List.mem_map] at this
  obtain ⟨e, he, rfl⟩ := this
  obtain ⟨j, hj⟩ := List.getElem?_of_mem he
  have h1 := hg.dep j e hj
  have h2 := hg.le hn
  have h3 := (List.getElem?_eq_some_iff.1 hj).1
  omega
theorem bump_all : ∀ (l : List Int) (out : List Int), out.length ≤ 1001 → (∀ x, x ∈ l → x ≤ 1000) → (l.foldl bump out).length ≤ 1001
  | [], _, h, _ => h
  | x :: l, out, h, hl => bump_all l (bump out x) (by rw [bump_len]; have := hl x (by simp); omega) (fun y hy => hl y (by simp [hy]))
theorem CountDepths_l1 (far : List Int) (hfar : far.length ≤ 1000) (R : List Int × Bool) (j : Nat) (x : Nat) (hx : x ≤ 1000) (d : Nat) : ∀ (out : List Int), x + 1 - out.length = d → out.length ≤ 1001 →
    Ev (fun k => spec_CountDepths.l0 k (bump out (x : Int)) far (far.length : Int) (wrap64 ((j : Int) + 1))) R → Ev (fun k => spec_CountDepths.l1 k out (x : Int) far (far.length : Int) (j : Int)) R := by
  induction d with
  | zero =>
    intro out hd hl h
    refine Ev.succ ?_
    have g1 : ¬ (out.length : Int) ≤ (x : Int) := by omega
    have g2 : (0 : Int) ≤ (x : Int) := by omega
    have g3 : (x : Int) < (out.length : Int) := by omega
    simp only [spec_CountDepths.l1, g1, g2, g3, if_true, if_false]
    unfold bump at h
    rw [show (x : Int).toNat = x from rfl, hd, List.replicate_zero, List.append_nil] at h
    exact h
  | succ d ih =>
    intro out hd hl h
    refine Ev.succ ?_
    have g1 : (out.length : Int) ≤ (x : Int) := by omega
    have g2 : out.length < 17592186044416 := by omega
    simp only [spec_CountDepths.l1, g1, g2, if_true]
    refine ih (out ++ [0]) (by simp; omega) (by simp; omega) ?_
    have e : bump (out ++ [0]) (x : Int) = bump out (x : Int) := by
      unfold bump
      simp only []
      have e2 : out ++ [0] ++ List.replicate ((x : Int).toNat + 1 - (out ++ [0]).length) (0 : Int) = out ++ List.replicate ((x : Int).toNat + 1 - out.length) 0 := by
        have e3 : (x : Int).toNat + 1 - out.length = d + 1 := by show x + 1 - _ = _; omega
        have e4 : (x : Int).toNat + 1 - (out ++ [0]).length = d := by rw [List.length_append]; show x + 1 - (_ + 1) = _; omega
        rw [e3, e4, List.append_assoc]
        rfl
      rw [e2]
    rw [e]
    exact h
theorem CountDepths_l0 (far : List Int) (hfar : far.length ≤ 1000) (hx : ∀ x, x ∈ far → 0 ≤ x ∧ x ≤ 1000) : Ev (fun k => spec_CountDepths.l0 k [] far (far.length : Int) 0) (far.foldl bump [], true) := by
  have key := Ev.inv (σ := List Int) (L := fun k j s => spec_CountDepths.l0 k s far (far.length : Int) (j : Int)) (r := (far.foldl bump [], true)) (n := far.length)
    (Inv := fun j s => s = (far.take j).foldl bump [])
    (fun s hs => by
      subst hs
      refine Ev.succ (Ev.ret fun k => ?_)
      rw [spec_CountDepths.l0, if_neg (by omega), List.take_length])
    (fun j s hj hs ih => by
      subst hs
      refine Ev.succ ?_
      have h1 : (j : Int) < (far.length : Int) := by omega
      have h0 : (0 : Int) ≤ (j : Int) := by omega
      have hxj := hx far[j] (List.getElem_mem hj)
      obtain ⟨x, ex⟩ : ∃ x : Nat, far[j] = (x : Int) := ⟨far[j].toNat, by omega⟩
      simp only [spec_CountDepths.l0, h1, h0, if_true, rd_nat far j hj, ex]
      refine CountDepths_l1 far hfar _ j x (by omega) _ _ rfl (bump_all _ [] (by simp) (fun y hy => (hx y (List.mem_of_mem_take hy)).2)) ?_
      rw [wrap_nat j far.length hj (by omega)]
      refine ih _ ?_
      rw [take_snoc far j hj, List.foldl_append, ex]
      rfl)
  exact key 0 [] (Nat.zero_le _) rfl
theorem CountDepths_both (a : Int) : ∃ r : List Int × Bool, Ev (fun k => spec_CountDepths.f k a) r ∧ Ev (fun k => impl_CountDepths.f k a) r ∧ r.1.length ≤ 1001 ∧ (2 ≤ a ∧ a ≤ 6 → r = (depC a.toNat, true)) ∧ (¬ (2 ≤ a ∧ a ≤ 6) → r = ([], false)) := by
  by_cases ha : 2 ≤ a ∧ a ≤ 6
  · obtain ⟨n, rfl⟩ : ∃ n : Nat, a = n := ⟨a.toNat, by omega⟩
    have hn1 : 2 ≤ n := by omega
    have hn : n ≤ 6 := by omega
    refine ⟨(depC n, true), ?_, ?_, ?_, fun _ => rfl, fun h => absurd ha h⟩
    · unfold spec_CountDepths.f
      simp only [l1In_f, Option.bind_some, show inB (n : Int) 2 6 = true from (inB_iff _ _ _).2 ha, if_true]
      refine Ev.bind (lvFar_ev n hn1 hn) ?_
      exact CountDepths_l0 _ (by unfold farQ; rw [List.length_map]; exact allO_le hn) (fun x hx => far_in hn hx)
    · unfold impl_CountDepths.f
      simp only [ha, and_self, if_true]
      refine Ev.bind (depths_ev n hn1 hn) ?_
      have hall : (depQ n).all (fun e => decide (0 ≤ e.2 ∧ e.2 < 1000)) = true := by
        rw [List.all_eq_true]
        intro e he
        obtain ⟨j, hj⟩ := List.getElem?_of_mem he
        have hg := depQ_good n hn
        have h1 := hg.dep j e hj
        have h2 := hg.le hn
        have h3 := (List.getElem?_eq_some_iff.1 hj).1
        exact decide_eq_true (by omega)
      simp only [hall, if_true]
      refine Ev.ret fun k => ?_
      rw [bump_perm (far_perm n hn)]
      rfl
    · exact bump_all _ [] (by simp) (fun y hy => (far_in hn hy).2)
  · refine ⟨([], false), ?_, ?_, by simp, fun h => absurd h ha, fun _ => rfl⟩
    · unfold spec_CountDepths.f
      have hf : inB a 2 6 = false := by
        rw [← Bool.not_eq_true, inB_iff]
        exact ha
      simp only [l1In_f, Option.bind_some, hf, Bool.false_eq_true, if_false]
      exact Ev.now _
    · unfold impl_CountDepths.f
      simp only [ha, if_false]
      exact Ev.now _
theorem FnExactCountDepths : ∀ (a0 : Int), (Lit.int .i64 a0).wf = true → ∃ k, laws_FnExactCountDepths.f k a0 = some true := by
  intro a _
  obtain ⟨r, hs, hi, hr, _, _⟩ := CountDepths_both a
  refine Ev.rounds ?_
  have hneg : ¬ markEnd 1 r.1.length < 0 := by have := markEnd_eq r.1.length 1 (by omega) (by omega); omega
  unfold laws_FnExactCountDepths.f
  repeat' (first
    | exact Ev.now _
    | ((with_reducible refine Ev.bind hs ?_); try dsimp only)
    | ((with_reducible refine Ev.bind hi ?_); try dsimp only)
    | ((with_reducible refine Ev.bind (toIntS_ev _ (by omega)) ?_); try dsimp only)
    | ((with_reducible refine Ev.bind (eqIntS_refl _ (by omega)) ?_); try dsimp only)
    | ((with_reducible refine Ev.bind (markIntS_ev _ _ (by omega)) ?_); try dsimp only)
    | ((with_reducible refine Ev.bind (heldIntS_ev _ _ (by omega)) ?_); try dsimp only)
    | simp only [if_true, if_false, bne_self_eq_false, Bool.false_eq_true, eq_self, Option.bind_some, hneg]
    )
end Go.Proofs.Ytojbmihkdlkkcaa.Q
