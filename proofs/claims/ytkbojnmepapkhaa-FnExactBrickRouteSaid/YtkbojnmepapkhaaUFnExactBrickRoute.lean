/- The pure statement of FnExactBrickRoute: the program's BrickRoute and the reference's give the same. Conditions: none beyond the law's own. -/
import Derived.Test.YtkbojnmepapkhaaE
import Derived.Test.YtkbojnmepapkhaaB1
import Derived.Test.YtkbojnmepapkhaaB2
namespace Go.Proofs.Ytkbojnmepapkhaa.Q
open Go.RowKit Go.Proofs.Ytkbojnmepapkhaa.B Go.Proofs.YtkbojnmepapkhaaW.PrintWords Go.Proofs.YtkbojnmepapkhaaW.PrintLast Go.Proofs.YtkbojnmepapkhaaW.PrintMore
set_option linter.unusedVariables false
set_option linter.unusedSimpArgs false
/-! Steps of indices. -/
theorem wrap_succ {i : Int} {n : Nat} (h0 : 0 ≤ i) (h : i < (n : Int)) (hn : n ≤ 9223372036854775807) : wrap64 (i + 1) = i + 1 := by
  unfold wrap64; omega
theorem wrap_in {i : Int} (h0 : -9223372036854775808 ≤ i) (h : i ≤ 9223372036854775807) : wrap64 i = i := by
  unfold wrap64; omega
theorem rd_nat (l : List Int) (j : Nat) (hj : j < l.length) : rd l (j : Int) = l[j] := by
  unfold rd; simp [hj]
theorem copy_step (l : List Int) (j : Nat) (hj : j < l.length) :
    (l.take j ++ List.replicate (l.length - j) 0).set j (l.getD j 0) = l.take (j + 1) ++ List.replicate (l.length - (j + 1)) 0 := by
  have e1 : l.length - j = (l.length - (j + 1)) + 1 := by omega
  have e2 : (l.take j).length = j := by rw [List.length_take]; omega
  rw [List.set_append_right (h := by omega), e2, e1, List.replicate_succ, Nat.sub_self, List.set_cons_zero, List.take_succ_eq_append_getElem hj, List.append_assoc]
  rw [List.getD_eq_getElem?_getD, List.getElem?_eq_getElem hj]
  rfl
/-! Rounds. -/
theorem Ev.succ {α : Type} {g : Nat → Option α} {r : α} (h : Ev (fun k => g (k + 1)) r) : Ev g r := Ev.step (f := fun k => g (k + 1)) (fun _ => rfl) h
theorem Ev.ret {α : Type} {g : Nat → Option α} {r : α} (h : ∀ k, g k = some r) : Ev g r := ⟨0, fun k _ => h k⟩
theorem Ev.eq {α : Type} {g : Nat → Option α} {r r' : α} (h : Ev g r) (e : r = r') : Ev g r' := e ▸ h
theorem Ev.iteb {α : Type} {b : Bool} {f g : Nat → Option α} {r : α} (h1 : b = true → Ev f r) (h2 : b = false → Ev g r) : Ev (fun k => if b = true then f k else g k) r := by
  cases b with
  | true => simpa using h1 rfl
  | false => simpa using h2 rfl
theorem Ev.ite {α : Type} {p : Prop} [Decidable p] {f g : Nat → Option α} {r : α} (h1 : p → Ev f r) (h2 : ¬ p → Ev g r) : Ev (fun k => if p then f k else g k) r := by
  by_cases h : p
  · simpa [h] using h1 h
  · simpa [h] using h2 h
/-- A loop over the places j, j+1, .., n: its state s, what it answers from a place and a state on. -/
theorem Ev.upto {σ ρ : Type} {L : Nat → Nat → σ → Option ρ} {R : Nat → σ → ρ} {n : Nat} (hend : ∀ s, Ev (fun k => L k n s) (R n s)) (hstep : ∀ j s, j < n → (∀ s', Ev (fun k => L k (j + 1) s') (R (j + 1) s')) → Ev (fun k => L k j s) (R j s)) :
    ∀ j s, j ≤ n → Ev (fun k => L k j s) (R j s) := by
  intro j s hj
  obtain ⟨d, hd⟩ : ∃ d, d = n - j := ⟨_, rfl⟩
  induction d generalizing j s with
  | zero => obtain rfl : j = n := by omega
            exact hend s
  | succ d ih => exact hstep j s (by omega) (fun s' => ih (j + 1) s' (by omega) (by omega))
theorem nat_succ (j : Nat) : ((j : Int) + 1) = ((j + 1 : Nat) : Int) := rfl
theorem wrap_nat (j n : Nat) (h : j < n) (hn : n ≤ 9223372036854775807) : wrap64 ((j : Int) + 1) = ((j + 1 : Nat) : Int) := by
  unfold wrap64; omega
theorem nat_toNat (j : Nat) : ((j : Int)).toNat = j := rfl
theorem take_snoc {α : Type} (l : List α) (j : Nat) (h : j < l.length) : l.take (j + 1) = l.take j ++ [l[j]] := List.take_succ_eq_append_getElem h
theorem Ev.inv {σ ρ : Type} {L : Nat → Nat → σ → Option ρ} {Inv : Nat → σ → Prop} {r : ρ} {n : Nat} (hend : ∀ s, Inv n s → Ev (fun k => L k n s) r) (hstep : ∀ j s, j < n → Inv j s → (∀ s', Inv (j + 1) s' → Ev (fun k => L k (j + 1) s') r) → Ev (fun k => L k j s) r) :
    ∀ j s, j ≤ n → Inv j s → Ev (fun k => L k j s) r := by
  intro j s hj hi
  obtain ⟨d, hd⟩ : ∃ d, d = n - j := ⟨_, rfl⟩
  induction d generalizing j s with
  | zero => obtain rfl : j = n := by omega
            exact hend s hi
  | succ d ih => exact hstep j s (by omega) hi (fun s' hs' => ih (j + 1) s' (by omega) hs' (by omega))
/-- the numbers at a place and the next one exchanged -/
def swp (p : List Int) (r : Int) : List Int := (p.set r.toNat (rd p (r + 1))).set (r + 1).toNat (rd p r)
def topL (p : List Int) (l : List Int) : List Int := l.foldl swp p
theorem swp_length (p : List Int) (r : Int) : (swp p r).length = p.length := by simp [swp]
theorem topL_length (l : List Int) : ∀ p, (topL p l).length = p.length := by
  induction l with
  | nil => intro p; rfl
  | cons r l ih => intro p; show (topL (swp p r) l).length = _; rw [ih, swp_length]
def okRungs (n : Nat) (l : List Int) : Prop := ∀ r ∈ l, 0 ≤ r ∧ r + 1 < (n : Int)
theorem topL_take (p l : List Int) (j : Nat) (h : j < l.length) : topL p (l.take (j + 1)) = swp (topL p (l.take j)) l[j] := by
  rw [take_snoc l j h]; unfold topL; rw [List.foldl_append]; rfl
/-- so many places from r on, every second one -/
def stp : Nat → Nat → List Int
  | 0, _ => []
  | d + 1, r => (r : Int) :: stp d (r + 2)
theorem stp_length (d : Nat) : ∀ r, (stp d r).length = d := by
  induction d with
  | zero => intro r; rfl
  | succ d ih => intro r; simp [stp, ih]
/-- the rungs of a brick -/
def brickL (n j : Nat) : List Int := stp ((n - 1 - j % 2 + 1) / 2) (j % 2)
def bricksL (n m : Nat) : List Int := (List.range m).flatMap (brickL n)
theorem brickL_length (n j : Nat) (hn : n ≤ 8) : (brickL n j).length ≤ 4 := by unfold brickL; rw [stp_length]; omega
theorem bricksL_succ (n m : Nat) : bricksL n (m + 1) = bricksL n m ++ brickL n m := by
  unfold bricksL; rw [List.range_succ, List.flatMap_append]; simp
theorem bricksL_length (n m : Nat) (hn : n ≤ 8) : (bricksL n m).length ≤ 4 * m := by
  induction m with
  | zero => simp [bricksL]
  | succ m ih => rw [bricksL_succ, List.length_append]; have := brickL_length n m hn; omega
def falls (p : List Int) (r : Int) : Bool := decide (rd p r > rd p (r + 1))
def lvlOf (n j : Nat) (p : List Int) : List Int := (brickL n j).filter (falls p)
def routeP (n : Nat) : Nat → Nat → List Int → List (List Int)
  | 0, _, _ => []
  | m + 1, j, p => lvlOf n j p :: routeP n m (j + 1) (topL p (lvlOf n j p))
theorem routeP_length (n m : Nat) : ∀ j p, (routeP n m j p).length = m := by
  induction m with
  | zero => intro j p; rfl
  | succ m ih => intro j p; simp [routeP, ih]
theorem stp_mem (d : Nat) : ∀ q, ∀ r ∈ stp d q, (q : Int) ≤ r ∧ r + 2 ≤ (q : Int) + 2 * (d : Int) := by
  induction d with
  | zero => intro q r h; simp [stp] at h
  | succ d ih =>
    intro q r h
    simp only [stp, List.mem_cons] at h
    rcases h with rfl | h
    · omega
    · have := ih (q + 2) r h; omega
theorem brickL_ok (n j : Nat) : okRungs n (brickL n j) := by
  intro r hr
  have := stp_mem _ _ r hr
  omega
theorem lvlOf_ok (n j : Nat) (p : List Int) : okRungs n (lvlOf n j p) := fun r hr => brickL_ok n j r (List.mem_filter.1 hr).1
theorem lvlOf_length (n j : Nat) (p : List Int) (hn : n ≤ 8) : (lvlOf n j p).length ≤ 4 := Nat.le_trans (List.length_filter_le _ _) (brickL_length n j hn)
theorem routeP_rows (n : Nat) (hn : n ≤ 8) (m : Nat) : ∀ j p, ∀ r ∈ routeP n m j p, r.length ≤ 4 := by
  induction m with
  | zero => intro j p r h; simp [routeP] at h
  | succ m ih =>
    intro j p r h
    simp only [routeP, List.mem_cons] at h
    rcases h with rfl | h
    · exact lvlOf_length n j p hn
    · exact ih _ _ r h
theorem l1Own_f (p : List Int) (hn : p.length ≤ 1000000) : spec_l1Own.f p = some p := by
  have g1 : ([] : List Int).length + p.length < 17592186044416 := by simp; omega
  unfold spec_l1Own.f
  simp only [Option.bind_some, g1, if_true, List.nil_append]
theorem alSwap_f (p : List Int) (r : Int) (h0 : 0 ≤ r) (h1 : r + 1 < (p.length : Int)) (hn : p.length ≤ 1000000) : spec_alSwap.f p r = some (swp p r) := by
  have e : wrap64 (r + 1) = r + 1 := wrap_in (by omega) (by omega)
  have g2 : (0 : Int) ≤ r + 1 := by omega
  have g3 : r < (p.length : Int) := by omega
  unfold spec_alSwap.f swp
  simp only [l1Own_f p hn, if_true, Option.bind_some, e, g2, h1, h0, g3]
theorem lvTop_ev (p l : List Int) (hn : p.length ≤ 1000000) (hl : l.length ≤ 1000000) (h : okRungs p.length l) : Ev (fun k => spec_lvTop.f k p l) (topL p l) := by
  have key := Ev.inv (σ := List Int) (L := fun k j s => spec_lvTop.l0 k s l (l.length : Int) (j : Int)) (r := topL p l) (n := l.length)
    (Inv := fun j s => s = topL p (l.take j))
    (fun s hs => by
      subst hs
      refine Ev.succ (Ev.ret fun k => ?_)
      rw [spec_lvTop.l0, if_neg (by omega), List.take_length])
    (fun j s hj hs ih => by
      subst hs
      refine Ev.succ ?_
      have h1 : (j : Int) < (l.length : Int) := by omega
      have h0 : (0 : Int) ≤ (j : Int) := by omega
      have hr := h l[j] (List.getElem_mem hj)
      have e := alSwap_f (topL p (l.take j)) l[j] hr.1 (by rw [topL_length]; exact hr.2) (by rw [topL_length]; exact hn)
      simp only [spec_lvTop.l0, h1, h0, if_true, rd_nat l j hj, wrap_nat j _ hj (by omega), e, Option.bind_some]
      exact ih _ (topL_take p l j hj).symm)
  exact key 0 p (Nat.zero_le _) rfl
theorem wq1 (q : Nat) (h : q ≤ 10) : wrap64 ((q : Int) + 1) = ((q + 1 : Nat) : Int) := wrap_nat q 11 (by omega) (by omega)
theorem wq2 (q : Nat) (h : q ≤ 10) : wrap64 ((q : Int) + 2) = ((q + 2 : Nat) : Int) := wrap_in (by omega) (by omega)
theorem wp1 (n : Nat) (h1 : 2 ≤ n) (h : n ≤ 8) : wrap64 ((n : Int) - 1) = ((n - 1 : Nat) : Int) := by rw [wrap_in (by omega) (by omega)]; omega
theorem lvRoute_l1 (p0 now : List Int) (n : Nat) (hp : p0.length = n) (hnow : now.length = n) (hn1 : 2 ≤ n) (hn : n ≤ 8) (out : List (List Int)) (hout : out.length ≤ 1000) (j : Nat) (R : List (List Int)) (d : Nat) : ∀ (q : Nat) (acc : List Int), acc.length + d ≤ 1000 → (n - 1 - q + 1) / 2 = d → q ≤ 10 → okRungs n acc →
    Ev (fun k => spec_lvRoute.l0 k p0 (topL now (acc ++ (stp d q).filter (falls now))) (out ++ [acc ++ (stp d q).filter (falls now)]) (n : Int) (wrap64 ((j : Int) + 1))) R →
    Ev (fun k => spec_lvRoute.l1 k p0 now out acc (q : Int) (n : Int) (j : Int)) R := by
  have hw1 : wrap64 ((p0.length : Int) - 1) = ((n - 1 : Nat) : Int) := by rw [hp]; exact wp1 n hn1 hn
  induction d with
  | zero =>
    intro q acc hl hd hq hok h
    refine Ev.succ ?_
    have g1 : ¬ (q : Int) < ((n - 1 : Nat) : Int) := by omega
    have g2 : out.length < 5864062014805 := by omega
    simp only [spec_lvRoute.l1, hw1, g1, if_false]
    refine Ev.bind (lvTop_ev now acc (by omega) (by omega) (by rw [hnow]; exact hok)) ?_
    simp only [g2, if_true]
    simpa [stp] using h
  | succ d ih =>
    intro q acc hl hd hq hok h
    refine Ev.succ ?_
    have g1 : (q : Int) < ((n - 1 : Nat) : Int) := by omega
    have g2 : acc.length < 17592186044416 := by omega
    have g5 : (0 : Int) ≤ (q : Int) := by omega
    have g6 : (q : Int) < (now.length : Int) := by omega
    have g7 : (0 : Int) ≤ ((q + 1 : Nat) : Int) := by omega
    have g8 : ((q + 1 : Nat) : Int) < (now.length : Int) := by omega
    have g3 := wq2 q hq
    have g4 := wq1 q hq
    simp only [spec_lvRoute.l1, hw1, g1, g2, g3, g4, g5, g6, g7, g8, if_true]
    clear g3 g4 hw1
    refine Ev.ite (fun c => ?_) (fun c => ?_)
    · refine ih (q + 2) (acc ++ [(q : Int)]) (by simp; omega) (by omega) (by omega) ?_ ?_
      · intro r hr
        rcases List.mem_append.1 hr with hr | hr
        · exact hok r hr
        · obtain rfl := List.mem_singleton.1 hr; omega
      · rw [stp, List.filter_cons_of_pos (by simpa [falls] using c)] at h
        simpa using h
    · refine ih (q + 2) acc (by omega) (by omega) (by omega) hok ?_
      rw [stp, List.filter_cons_of_neg (by simpa [falls] using c)] at h
      exact h
theorem lvRoute_l0 (p0 : List Int) (n : Nat) (hp : p0.length = n) (hn1 : 2 ≤ n) (hn : n ≤ 8) (m : Nat) : ∀ j now out, j + m = n → now.length = n → out.length = j →
    Ev (fun k => spec_lvRoute.l0 k p0 now out (n : Int) (j : Int)) (out ++ routeP n m j now) := by
  induction m with
  | zero =>
    intro j now out hj _ _
    refine Ev.succ ?_
    have g1 : ¬ (j : Int) < (n : Int) := by omega
    simp only [spec_lvRoute.l0, g1, if_false]
    exact Ev.eq (Ev.now _) (by simp [routeP])
  | succ m ih =>
    intro j now out hj hnow hout
    refine Ev.succ ?_
    have g1 : (j : Int) < (n : Int) := by omega
    have g2 : Int.tmod (j : Int) 2 = ((j % 2 : Nat) : Int) := by rw [Int.tmod_eq_emod_of_nonneg (by omega)]; omega
    simp only [spec_lvRoute.l0, g1, if_true, g2]
    refine lvRoute_l1 p0 now n hp hnow hn1 hn out (by omega) j _ _ (j % 2) [] (by simp; omega) rfl (by omega) (fun r h => by simp at h) ?_
    rw [wrap_nat j n (by omega) (by omega), List.nil_append]
    have := ih (j + 1) (topL now (lvlOf n j now)) (out ++ [lvlOf n j now]) (by omega) (by rw [topL_length]; exact hnow) (by simp [hout])
    refine Ev.eq this ?_
    simp [routeP]
theorem lvRoute_ev (p : List Int) (hn1 : 2 ≤ p.length) (hn : p.length ≤ 8) : Ev (fun k => spec_lvRoute.f k p) (routeP p.length p.length 0 p) := by
  unfold spec_lvRoute.f
  simp only [l1Own_f p (by omega), Option.bind_some]
  exact lvRoute_l0 p p.length rfl hn1 hn _ 0 p [] (by omega) rfl rfl
def orderAt (p : List Int) (i : Nat) : Bool := inB (rd p i) 0 (wrap64 ((p.length : Int) - 1)) && !(decide (rd p i ∈ p.take i))
def orderB (p : List Int) : Bool := inB (p.length : Int) 1 8 && (List.range' 0 p.length).all (orderAt p)
theorem orderB_iff (p : List Int) : orderB p = true ↔ (1 ≤ p.length ∧ p.length ≤ 8) ∧ (∀ i, (h : i < p.length) → 0 ≤ p[i] ∧ p[i] < p.length ∧ ¬ p[i] ∈ p.take i) := by
  unfold orderB
  rw [Bool.and_eq_true]
  constructor
  · rintro ⟨h1, h2⟩
    have h1' : 1 ≤ p.length ∧ p.length ≤ 8 := by unfold inB at h1; simp at h1; omega
    refine ⟨h1', fun i hi => ?_⟩
    have := List.all_eq_true.1 h2 i (by simp [hi])
    have e : wrap64 ((p.length : Int) - 1) = (p.length : Int) - 1 := wrap_in (by omega) (by omega)
    unfold orderAt inB at this
    rw [e, rd_nat p i hi] at this
    simp at this
    exact ⟨by omega, by omega, this.2⟩
  · rintro ⟨h1, h2⟩
    refine ⟨by unfold inB; simp; omega, List.all_eq_true.2 fun i hi => ?_⟩
    have hi' : i < p.length := by simpa using hi
    obtain ⟨a, b, c⟩ := h2 i hi'
    have e : wrap64 ((p.length : Int) - 1) = (p.length : Int) - 1 := wrap_in (by omega) (by omega)
    unfold orderAt inB
    rw [e, rd_nat p i hi']
    simp
    exact ⟨by omega, c⟩
theorem order_mem {p : List Int} (h : orderB p = true) {x : Int} (hx : x ∈ p) : 0 ≤ x ∧ x < p.length := by
  obtain ⟨i, hi, rfl⟩ := List.getElem_of_mem hx
  have := ((orderB_iff p).1 h).2 i hi
  exact ⟨this.1, this.2.1⟩
theorem l1In_f (a b c : Int) : spec_l1In.f a b c = some (inB a b c) := by
  unfold spec_l1In.f inB
  split
  · rename_i h; simp [h]
  · rename_i h; simp; omega
theorem inB_iff (a b c : Int) : inB a b c = true ↔ b ≤ a ∧ a ≤ c := by unfold inB; simp
theorem l1Has_ev (l : List Int) (x : Int) (hn : l.length ≤ 9223372036854775807) : Ev (fun k => spec_l1Has.f k l x) (decide (x ∈ l)) := by
  have key := Ev.upto (L := fun k j (_ : Unit) => spec_l1Has.l0 k x l (l.length : Int) (j : Int)) (R := fun j _ => decide (x ∈ l.drop j)) (n := l.length)
    (fun _ => by
      refine Ev.succ (Ev.ret fun k => ?_)
      rw [spec_l1Has.l0, if_neg (by omega)]; simp)
    (fun j _ hj ih => by
      refine Ev.succ ?_
      have h1 : (j : Int) < (l.length : Int) := by omega
      have h0 : (0 : Int) ≤ (j : Int) := by omega
      simp only [spec_l1Has.l0, h1, h0, if_true, rd_nat l j hj, wrap_nat j _ hj hn]
      rw [List.drop_eq_getElem_cons hj]
      refine Ev.ite (fun h => ?_) (fun h => ?_)
      · refine Ev.eq (Ev.now _) ?_; simp [h]
      · refine Ev.eq (ih ()) ?_
        have h' : ¬ x = l[j] := fun e => h e.symm
        rw [decide_eq_decide, List.mem_cons]
        exact ⟨fun m => .inr m, fun m => m.resolve_left h'⟩)
  have := key 0 () (Nat.zero_le _)
  rw [List.drop_zero] at this
  exact this
theorem laOrder_ev (p : List Int) : Ev (fun k => spec_laOrder.f k p) (orderB p) := by
  unfold spec_laOrder.f orderB
  simp only [l1In_f, Option.bind_some]
  refine Ev.iteb (fun h => ?_) (fun h => ?_)
  · rw [h, Bool.true_and]
    have hn := (inB_iff _ _ _).1 h
    have key := Ev.upto (L := fun k j (_ : Unit) => spec_laOrder.l0 k p p (p.length : Int) (j : Int)) (R := fun j _ => (List.range' j (p.length - j)).all (orderAt p)) (n := p.length)
      (fun _ => by
        refine Ev.succ (Ev.ret fun k => ?_)
        rw [spec_laOrder.l0, if_neg (by omega), Nat.sub_self]; rfl)
      (fun j _ hj ih => by
        refine Ev.succ ?_
        have h1 : (j : Int) < (p.length : Int) := by omega
        have h0 : (0 : Int) ≤ (j : Int) := by omega
        have h2 : (j : Int) ≤ (p.length : Int) := by omega
        have e : p.length - j = (p.length - (j + 1)) + 1 := by omega
        simp only [spec_laOrder.l0, h1, h0, h2, if_true, l1In_f, Option.bind_some, wrap_nat j p.length hj (by omega), nat_toNat]
        rw [e, List.range'_succ, List.all_cons, orderAt]
        refine Ev.iteb (fun h => ?_) (fun h => ?_)
        · rw [h, Bool.true_and]
          refine Ev.bind (l1Has_ev _ _ (by rw [List.length_take]; omega)) ?_
          refine Ev.iteb (fun h => ?_) (fun h => ?_)
          · rw [h]; exact Ev.now _
          · rw [h]; exact ih ()
        · rw [h]; exact Ev.now _)
    exact key 0 () (Nat.zero_le _)
  · rw [h]; exact Ev.now _
def routeOf (p : List Int) : List (List Int) × Bool := if orderB p = true ∧ 2 ≤ p.length then (routeP p.length p.length 0 p, true) else ([], false)
theorem BrickRoute_spec (p : List Int) : Ev (fun k => spec_BrickRoute.f k p) (routeOf p) := by
  unfold spec_BrickRoute.f routeOf
  refine Ev.bind (laOrder_ev p) ?_
  by_cases h : orderB p = true
  · have hn := ((orderB_iff p).1 h).1
    simp only [h, if_true, true_and]
    by_cases h2 : 2 ≤ p.length
    · have g : ¬ (p.length : Int) < 2 := by omega
      simp only [g, h2, if_true, if_false]
      exact Ev.bind (lvRoute_ev p h2 hn.2) (Ev.now _)
    · have g : (p.length : Int) < 2 := by omega
      simp only [g, h2, if_true, if_false]
      exact Ev.now _
  · have h' : orderB p = false := by simpa using h
    simp only [h', Bool.false_eq_true, if_false, false_and]
    exact Ev.now _
theorem exchanged_f (p : List Int) (r : Int) (h0 : 0 ≤ r) (h1 : r + 1 < (p.length : Int)) (hn : p.length ≤ 1000000) : impl_exchanged.f p r = some (swp p r) := by
  have e : wrap64 (r + 1) = r + 1 := wrap_in (by omega) (by omega)
  have g1 : p.length ≤ 17592186044416 := by omega
  have g2 : (0 : Int) ≤ r + 1 := by omega
  have g3 : r < (p.length : Int) := by omega
  unfold impl_exchanged.f slices_Clone_int_int.f swp
  simp only [g1, if_true, Option.bind_some, e, g2, h1, h0, g3]
theorem laid_ev (p l : List Int) (hn : p.length ≤ 1000000) (hl : l.length ≤ 1000000) (h : okRungs p.length l) : Ev (fun k => impl_laid.f k p l) (topL p l) := by
  have key := Ev.inv (σ := List Int) (L := fun k j s => impl_laid.l0 k s l (l.length : Int) (j : Int)) (r := topL p l) (n := l.length)
    (Inv := fun j s => s = topL p (l.take j))
    (fun s hs => by
      subst hs
      refine Ev.succ (Ev.ret fun k => ?_)
      rw [impl_laid.l0, if_neg (by omega), List.take_length])
    (fun j s hj hs ih => by
      subst hs
      refine Ev.succ ?_
      have h1 : (j : Int) < (l.length : Int) := by omega
      have h0 : (0 : Int) ≤ (j : Int) := by omega
      have hr := h l[j] (List.getElem_mem hj)
      have e := exchanged_f (topL p (l.take j)) l[j] hr.1 (by rw [topL_length]; exact hr.2) (by rw [topL_length]; exact hn)
      simp only [impl_laid.l0, h1, h0, if_true, rd_nat l j hj, wrap_nat j _ hj (by omega), e, Option.bind_some]
      exact ih _ (topL_take p l j hj).symm)
  exact key 0 p (Nat.zero_le _) rfl
theorem brick_l0 (n : Nat) (hn1 : 2 ≤ n) (hn : n ≤ 8) (d : Nat) : ∀ (q : Nat) (acc : List Int), acc.length + d ≤ 1000 → (n - 1 - q + 1) / 2 = d → q ≤ 10 →
    Ev (fun k => impl_brick.l0 k (n : Int) acc (q : Int)) (acc ++ stp d q) := by
  have hw1 : wrap64 ((n : Int) - 1) = ((n - 1 : Nat) : Int) := by unfold wrap64; omega
  induction d with
  | zero =>
    intro q acc _ hd hq
    refine Ev.succ ?_
    have g1 : ¬ (q : Int) < ((n - 1 : Nat) : Int) := by omega
    simp only [impl_brick.l0, hw1, g1, if_false]
    exact Ev.eq (Ev.now _) (by simp [stp])
  | succ d ih =>
    intro q acc hl hd hq
    refine Ev.succ ?_
    have g1 : (q : Int) < ((n - 1 : Nat) : Int) := by omega
    have g2 : acc.length < 17592186044416 := by omega
    have g3 : wrap64 ((q : Int) + 2) = ((q + 2 : Nat) : Int) := by unfold wrap64; omega
    simp only [impl_brick.l0, hw1, g1, g2, g3, if_true]
    exact Ev.eq (ih (q + 2) (acc ++ [(q : Int)]) (by simp; omega) (by omega) (by omega)) (by simp [stp])
theorem brick_ev (n j : Nat) (hn1 : 2 ≤ n) (hn : n ≤ 8) : Ev (fun k => impl_brick.f k (n : Int) (j : Int)) (brickL n j) := by
  unfold impl_brick.f
  have g2 : Int.tmod (j : Int) 2 = ((j % 2 : Nat) : Int) := by rw [Int.tmod_eq_emod_of_nonneg (by omega)]; omega
  rw [g2]
  exact brick_l0 n hn1 hn _ (j % 2) [] (by simp; omega) rfl (by omega)
theorem ownL_eq (p b : List Int) : ∀ acc, okRungs p.length b → acc.length + b.length ≤ 1000 → ownL p b acc = some (acc ++ b.filter (falls p)) := by
  induction b with
  | nil => intro acc _ _; simp [ownL]
  | cons r b ih =>
    intro acc h hl
    have hr := h r (by simp)
    rw [List.length_cons] at hl
    rw [ownL, if_pos ⟨hr.1, hr.2, by omega⟩]
    by_cases c : rd p r > rd p (r + 1)
    · rw [if_pos c, ih _ (fun q hq => h q (by simp [hq])) (by simp; omega), List.filter_cons_of_pos (by simpa [falls] using c), List.append_assoc]; rfl
    · rw [if_neg c, ih _ (fun q hq => h q (by simp [hq])) (by omega), List.filter_cons_of_neg (by simpa [falls] using c)]
theorem routeGo_ev (n : Nat) (hn1 : 2 ≤ n) (hn : n ≤ 8) (m : Nat) : ∀ j p out, p.length = n → Ev (fun k => routeGo k m j p out) (out ++ routeP n m j p) := by
  induction m with
  | zero => intro j p out _; exact Ev.eq (Ev.now _) (by simp [routeP])
  | succ m ih =>
    intro j p out hp
    simp only [routeGo]
    rw [hp]
    refine Ev.bind (brick_ev n j hn1 hn) ?_
    have hb := brickL_length n j hn
    have e := ownL_eq p (brickL n j) [] (by rw [hp]; exact brickL_ok n j) (by simp; omega)
    rw [List.nil_append] at e
    simp only [e, Option.bind_some]
    have hl := lvlOf_length n j p hn
    refine Ev.bind (laid_ev p (lvlOf n j p) (by omega) (by omega) (by rw [hp]; exact lvlOf_ok n j p)) ?_
    refine Ev.eq (ih (j + 1) _ (out ++ [lvlOf n j p]) (by rw [topL_length]; exact hp)) ?_
    simp [routeP]
theorem route_ev (p : List Int) (hn1 : 2 ≤ p.length) (hn : p.length ≤ 8) : Ev (fun k => impl_route.f k p) (routeP p.length p.length 0 p) := by
  have g : p.length ≤ 1000 := by omega
  unfold impl_route.f
  simp only [g, if_true]
  exact routeGo_ev p.length hn1 hn _ 0 p [] rfl
theorem btw_f (a b c : Int) : impl_between.f a b c = some (inB a b c) := by
  unfold impl_between.f inB
  split
  · rename_i h; simp [h]
  · rename_i h; simp; omega
theorem Index_ev (l : List Int) (x : Int) (hn : l.length ≤ 9223372036854775807) : ∃ r, Ev (fun k => slices_Index_int_int.f k l x) r ∧ (decide (r ≥ 0)) = decide (x ∈ l) := by
  have key : ∀ d j, j ≤ l.length → l.length - j = d → ∃ r, Ev (fun k => slices_Index_int_int.l0 k l x (l.length : Int) (j : Int)) r ∧ (decide (r ≥ 0)) = decide (x ∈ l.drop j) := by
    intro d
    induction d with
    | zero =>
      intro j h1 hd
      refine ⟨-1, Ev.succ (Ev.ret fun k => ?_), ?_⟩
      · rw [slices_Index_int_int.l0, if_neg (by omega)]
      · rw [List.drop_eq_nil_of_le (by omega)]; simp
    | succ d ih =>
      intro j h1 hd
      have hj : j < l.length := by omega
      have h1 : (j : Int) < (l.length : Int) := by omega
      have h0 : (0 : Int) ≤ (j : Int) := by omega
      rw [List.drop_eq_getElem_cons hj]
      by_cases h : x = l[j]
      · refine ⟨j, Ev.succ (Ev.ret fun k => ?_), ?_⟩
        · rw [slices_Index_int_int.l0, if_pos h1, if_pos h0, if_pos h1, rd_nat l j hj, if_pos h]
        · rw [decide_eq_decide, List.mem_cons]; exact ⟨fun _ => .inl h, fun _ => by omega⟩
      · obtain ⟨r, hr, e⟩ := ih (j + 1) (by omega) (by omega)
        refine ⟨r, Ev.succ ?_, ?_⟩
        · simp only [slices_Index_int_int.l0, h1, h0, if_true, rd_nat l j hj, h, if_false, wrap_nat j _ hj hn]
          exact hr
        · rw [e, decide_eq_decide, List.mem_cons]; exact ⟨fun m => .inr m, fun m => m.resolve_left h⟩
  obtain ⟨r, hr, e⟩ := key l.length 0 (Nat.zero_le _) (by omega)
  rw [List.drop_zero] at e
  exact ⟨r, hr, e⟩
theorem Contains_ev (l : List Int) (x : Int) (hn : l.length ≤ 9223372036854775807) : Ev (fun k => slices_Contains_int_int.f k l x) (decide (x ∈ l)) := by
  obtain ⟨r, hr, e⟩ := Index_ev l x hn
  unfold slices_Contains_int_int.f
  exact Ev.bind hr (Ev.eq (Ev.now _) e)
theorem isOrder_ev (p : List Int) : Ev (fun k => impl_isOrder.f k p) (orderB p) := by
  unfold impl_isOrder.f orderB
  simp only [btw_f, Option.bind_some]
  refine Ev.iteb (fun h => ?_) (fun h => ?_)
  · rw [h, Bool.true_and]
    have hn : 1 ≤ (p.length : Int) ∧ (p.length : Int) ≤ 8 := by unfold inB at h; simpa using h
    have key := Ev.upto (L := fun k j (_ : Unit) => impl_isOrder.l0 k p p (p.length : Int) (j : Int)) (R := fun j _ => (List.range' j (p.length - j)).all (orderAt p)) (n := p.length)
      (fun _ => by
        refine Ev.succ (Ev.ret fun k => ?_)
        rw [impl_isOrder.l0, if_neg (by omega), Nat.sub_self]; rfl)
      (fun j _ hj ih => by
        refine Ev.succ ?_
        have h1 : (j : Int) < (p.length : Int) := by omega
        have h0 : (0 : Int) ≤ (j : Int) := by omega
        have h2 : (j : Int) ≤ (p.length : Int) := by omega
        have e : p.length - j = (p.length - (j + 1)) + 1 := by omega
        simp only [impl_isOrder.l0, h1, h0, h2, if_true, btw_f, Option.bind_some, wrap_nat j p.length hj (by omega), nat_toNat]
        rw [e, List.range'_succ, List.all_cons, orderAt]
        refine Ev.iteb (fun h => ?_) (fun h => ?_)
        · rw [h, Bool.true_and]
          refine Ev.bind (Contains_ev _ _ (by rw [List.length_take]; omega)) ?_
          refine Ev.iteb (fun h => ?_) (fun h => ?_)
          · rw [h]; exact Ev.now _
          · rw [h]; exact ih ()
        · rw [h]; exact Ev.now _)
    exact key 0 () (Nat.zero_le _)
  · rw [h]; exact Ev.now _
/-- the marks from m on, n of them -/
def marks (m : Int) : Nat → List Int
  | 0 => []
  | n + 1 => m :: marks (wrap64 (m + 1)) n
def markEnd (m : Int) : Nat → Int
  | 0 => m
  | n + 1 => markEnd (wrap64 (m + 1)) n
theorem marks_length (n : Nat) : ∀ m, (marks m n).length = n := by
  induction n with
  | zero => intro m; rfl
  | succ n ih => intro m; simp [marks, ih]
theorem markIntS_l0 (n : Nat) : ∀ (k j : Nat) (p q : List Int) (m : Int), p.length = j → q.length = n → j + n ≤ 9223372036854775807 → n < k →
    laws_markIntS.l0 k (p ++ q) m (j : Int) = some (markEnd m n, p ++ marks m n) := by
  induction n with
  | zero =>
    intro k j p q m hp hq hb hk
    obtain ⟨k, rfl⟩ : ∃ m, k = m + 1 := ⟨k - 1, by omega⟩
    have : q = [] := List.eq_nil_of_length_eq_zero hq
    subst this
    rw [laws_markIntS.l0, if_neg (by simp; omega)]; simp [marks, markEnd]
  | succ n ih =>
    intro k j p q m hp hq hb hk
    obtain ⟨k, rfl⟩ : ∃ m, k = m + 1 := ⟨k - 1, by omega⟩
    cases q with
    | nil => simp at hq
    | cons x q =>
      rw [laws_markIntS.l0, if_pos (by simp; omega), if_pos (by omega), wrap_succ (i := (j : Int)) (n := j + n + 1) (by omega) (by omega) (by omega)]
      have e : (j : Int).toNat = j := rfl
      have e2 : ((j : Int) + 1) = ((j + 1 : Nat) : Int) := rfl
      have e3 : (p ++ x :: q).set j m = (p ++ [m]) ++ q := by
        rw [List.set_append_right (h := by omega), hp, Nat.sub_self, List.set_cons_zero, List.append_assoc]; rfl
      rw [e, e2, e3, ih k (j + 1) (p ++ [m]) q (wrap64 (m + 1)) (by simp [hp]) (by simpa using hq) (by omega) (by omega)]
      simp [marks, markEnd]
theorem markIntS_ev (l : List Int) (m : Int) (hn : l.length ≤ 9223372036854775807) : Ev (fun k => laws_markIntS.f k l m) (markEnd m l.length, marks m l.length) := by
  refine ⟨l.length + 1, fun k hk => ?_⟩
  show laws_markIntS.f k l m = _
  unfold laws_markIntS.f
  have := markIntS_l0 l.length k 0 [] l m rfl rfl (by omega) (by omega)
  simpa using this
theorem heldIntS_l0 (n : Nat) : ∀ (k j : Nat) (p : List Int) (m : Int), p.length = j → j + n ≤ 9223372036854775807 → n < k →
    laws_heldIntS.l0 k (p ++ marks m n) m (j : Int) = some (markEnd m n) := by
  induction n with
  | zero =>
    intro k j p m hp hb hk
    obtain ⟨k, rfl⟩ : ∃ m, k = m + 1 := ⟨k - 1, by omega⟩
    rw [laws_heldIntS.l0, if_neg (by simp [marks]; omega)]; rfl
  | succ n ih =>
    intro k j p m hp hb hk
    obtain ⟨k, rfl⟩ : ∃ m, k = m + 1 := ⟨k - 1, by omega⟩
    have hl := marks_length n (wrap64 (m + 1))
    rw [laws_heldIntS.l0, marks]
    have hr : rd (p ++ m :: marks (wrap64 (m + 1)) n) (j : Int) = m := by
      rw [rd_nat _ _ (by simp; omega), List.getElem_append_right (by omega)]; simp [hp]
    rw [if_pos (by simp; omega), if_pos (by omega), if_pos hr, wrap_succ (i := (j : Int)) (n := j + n + 1) (by omega) (by omega) (by omega)]
    have e2 : ((j : Int) + 1) = ((j + 1 : Nat) : Int) := rfl
    have e3 : p ++ m :: marks (wrap64 (m + 1)) n = (p ++ [m]) ++ marks (wrap64 (m + 1)) n := by simp
    rw [e2, e3, ih k (j + 1) (p ++ [m]) (wrap64 (m + 1)) (by simp [hp]) (by omega) (by omega)]
    rfl
theorem heldIntS_ev (m : Int) (n : Nat) (hn : n ≤ 9223372036854775807) : Ev (fun k => laws_heldIntS.f k (marks m n) m) (markEnd m n) := by
  refine ⟨n + 1, fun k hk => ?_⟩
  show laws_heldIntS.f k (marks m n) m = _
  unfold laws_heldIntS.f
  have := heldIntS_l0 n k 0 [] m rfl (by omega) (by omega)
  simpa using this
theorem markEnd_eq (n : Nat) : ∀ m : Int, 0 ≤ m → m + n ≤ 9223372036854775807 → markEnd m n = m + n := by
  induction n with
  | zero => intro m h0 h1; simp [markEnd]
  | succ n ih =>
    intro m h0 h1
    simp only [markEnd]
    rw [wrap_in (by omega) (by omega), ih (m + 1) (by omega) (by omega)]
    omega
theorem eqIntS_l0 (a b : List Int) (he : a.length = b.length) (hn : a.length ≤ 9223372036854775807) (d : Nat) : ∀ (k j : Nat), j ≤ a.length → a.length - j = d → d < k →
    laws_eqIntS.l0 k a b (j : Int) = some (decide (a.drop j = b.drop j)) := by
  induction d with
  | zero =>
    intro k j h1 hd hk
    obtain ⟨k, rfl⟩ : ∃ m, k = m + 1 := ⟨k - 1, by omega⟩
    have h2 : a.drop j = [] := List.drop_eq_nil_of_le (by omega)
    have h3 : b.drop j = [] := List.drop_eq_nil_of_le (by omega)
    rw [laws_eqIntS.l0, if_neg (by omega), h2, h3]; simp only [decide_true]
  | succ d ih =>
    intro k j h1 hd hk
    obtain ⟨k, rfl⟩ : ∃ m, k = m + 1 := ⟨k - 1, by omega⟩
    have hj : j < a.length := by omega
    have hj2 : j < b.length := by omega
    rw [laws_eqIntS.l0, if_pos (by omega), if_pos (by omega), if_pos (by omega), rd_nat a j hj, rd_nat b j hj2, wrap_succ (n := a.length) (by omega) (by omega) hn, List.drop_eq_getElem_cons hj, List.drop_eq_getElem_cons hj2]
    by_cases h : a[j] = b[j]
    · rw [if_pos h]
      have e2 : ((j : Int) + 1) = ((j + 1 : Nat) : Int) := rfl
      rw [e2, ih k (j + 1) (by omega) (by omega) (by omega)]
      refine congrArg some (decide_eq_decide.2 ?_)
      rw [List.cons.injEq]
      exact ⟨fun e => ⟨h, e⟩, fun e => e.2⟩
    · rw [if_neg h]
      refine congrArg some (decide_eq_false ?_).symm
      rw [List.cons.injEq]
      exact fun e => h e.1
theorem eqIntS_ev (a b : List Int) (hn : a.length ≤ 9223372036854775807) : Ev (fun k => laws_eqIntS.f k a b) (decide (a = b)) := by
  refine ⟨a.length + 1, fun k hk => ?_⟩
  show laws_eqIntS.f k a b = _
  unfold laws_eqIntS.f
  by_cases h : (a.length : Int) = (b.length : Int)
  · rw [if_pos h]
    have := eqIntS_l0 a b (by omega) hn a.length k 0 (by omega) (by omega) (by omega)
    simpa using this
  · rw [if_neg h]
    have : a ≠ b := fun e => h (by rw [e])
    simp [this]
theorem eqIntS_refl (l : List Int) (hn : l.length ≤ 9223372036854775807) : Ev (fun k => laws_eqIntS.f k l l) true := Ev.eq (eqIntS_ev l l hn) (by simp)
def smallSS (l : List (List Int)) : Prop := l.length ≤ 1000000 ∧ ∀ r ∈ l, r.length ≤ 1000000
def marksSS (m : Int) : List (List Int) → List (List Int)
  | [] => []
  | r :: l => marks m r.length :: marksSS (markEnd m r.length) l
def markEndSS (m : Int) : List (List Int) → Int
  | [] => m
  | r :: l => markEndSS (markEnd m r.length) l
theorem marksSS_length (l : List (List Int)) : ∀ m, (marksSS m l).length = l.length := by
  induction l with
  | nil => intro m; rfl
  | cons r l ih => intro m; simp [marksSS, ih]
theorem rdL_nat (l : List (List Int)) (i : Nat) (hi : i < l.length) : rd_L1 l (i : Int) = l[i] := by
  unfold rd_L1; simp [hi]
theorem markIntSS_rows (l : List (List Int)) : ∀ m, (∀ r ∈ l, r.length ≤ 1000000) → Ev (fun k => markRows k l m) (markEndSS m l, marksSS m l) := by
  induction l with
  | nil => intro m _; exact Ev.now _
  | cons r l ih =>
    intro m h
    refine Ev.bind (markIntS_ev r m (by have := h r (by simp); omega)) ?_
    exact Ev.bind (ih _ (fun q hq => h q (by simp [hq]))) (Ev.now _)
theorem markIntSS_ev (l : List (List Int)) (m : Int) (h : smallSS l) : Ev (fun k => laws_markIntSS.f k l m) (markEndSS m l, marksSS m l) := markIntSS_rows l m h.2
theorem markEndSS_pos (l : List (List Int)) : ∀ m : Int, 0 ≤ m → m + 1000000 * (l.length : Int) ≤ 9000000000000000000 → (∀ r ∈ l, r.length ≤ 1000000) → 0 ≤ markEndSS m l := by
  induction l with
  | nil => intro m h _ _; exact h
  | cons r l ih =>
    intro m h0 h1 h
    have hr := h r (by simp)
    rw [List.length_cons] at h1
    have e := markEnd_eq r.length m h0 (by omega)
    rw [markEndSS]
    exact ih _ (by omega) (by omega) (fun q hq => h q (by simp [hq]))
theorem heldIntSS_l0 (l : List (List Int)) : ∀ (p : List (List Int)) (m : Int), 0 ≤ m → m + 1000000 * (l.length : Int) ≤ 9000000000000000000 → (∀ r ∈ l, r.length ≤ 1000000) → p.length + l.length ≤ 1000000 →
    Ev (fun k => laws_heldIntSS.l0 k (p ++ marksSS m l) m (p.length : Int)) (markEndSS m l) := by
  induction l with
  | nil =>
    intro p m _ _ _ _
    refine Ev.succ (Ev.ret fun k => ?_)
    rw [laws_heldIntSS.l0, if_neg (by simp [marksSS])]; rfl
  | cons r l ih =>
    intro p m h0 h1 h hp
    have hr := h r (by simp)
    rw [List.length_cons] at h1 hp
    have e := markEnd_eq r.length m h0 (by omega)
    refine Ev.succ ?_
    have hl := marksSS_length l (markEnd m r.length)
    have hlen : p.length < (p ++ marksSS m (r :: l)).length := by rw [List.length_append, marksSS_length]; simp
    have g1 : (p.length : Int) < ((p ++ marksSS m (r :: l)).length : Int) := by omega
    have g2 : (0 : Int) ≤ (p.length : Int) := by omega
    have e2 : rd_L1 (p ++ marksSS m (r :: l)) (p.length : Int) = marks m r.length := by
      rw [rdL_nat _ _ hlen, List.getElem_append_right (by omega)]; simp [marksSS]
    have g3 : ¬ markEnd m r.length < 0 := by omega
    simp only [laws_heldIntSS.l0, g1, g2, if_true, e2, wrap_nat p.length (p.length + 1) (by omega) (by omega)]
    refine Ev.bind (heldIntS_ev m r.length (by omega)) ?_
    simp only [g3, if_false]
    have e3 : p ++ marksSS m (r :: l) = (p ++ [marks m r.length]) ++ marksSS (markEnd m r.length) l := by simp [marksSS]
    have e4 : (p ++ [marks m r.length]).length = p.length + 1 := by simp
    have := ih (p ++ [marks m r.length]) (markEnd m r.length) (by omega) (by omega) (fun q hq => h q (by simp [hq])) (by rw [e4]; omega)
    rw [e4] at this
    rw [e3]
    exact this
theorem heldIntSS_ev (l : List (List Int)) (m : Int) (h : smallSS l) (h0 : 0 ≤ m) (h1 : m ≤ 10) : Ev (fun k => laws_heldIntSS.f k (marksSS m l) m) (markEndSS m l) := by
  unfold laws_heldIntSS.f
  have := heldIntSS_l0 l [] m h0 (by have := h.1; omega) h.2 (by have := h.1; simpa using this)
  simpa using this
theorem markEndSS_neg (l : List (List Int)) (h : smallSS l) : ¬ markEndSS 1 l < 0 := by
  have := markEndSS_pos l 1 (by omega) (by have := h.1; omega) h.2
  omega
theorem eqIntSS_refl (l : List (List Int)) (h : smallSS l) : Ev (fun k => laws_eqIntSS.f k l l) true := by
  unfold laws_eqIntSS.f
  have key := Ev.upto (L := fun k j (_ : Unit) => laws_eqIntSS.l0 k l l (j : Int)) (R := fun _ _ => true) (n := l.length)
    (fun _ => by
      refine Ev.succ (Ev.ret fun k => ?_)
      rw [laws_eqIntSS.l0, if_neg (by omega)])
    (fun j _ hj ih => by
      refine Ev.succ ?_
      have h1 := h.1
      have g1 : (j : Int) < (l.length : Int) := by omega
      have g2 : (0 : Int) ≤ (j : Int) := by omega
      simp only [laws_eqIntSS.l0, g1, g2, if_true, rdL_nat l j hj, wrap_nat j l.length hj (by omega)]
      refine Ev.bind (eqIntS_refl l[j] (by have := h.2 l[j] (List.getElem_mem hj); omega)) ?_
      simp only [if_true]
      exact ih ())
  simp only [if_true]
  exact key 0 () (Nat.zero_le _)
theorem toIntS_l0 (l : List Int) (hn : l.length ≤ 140737488351232) (d : Nat) : ∀ (k j : Nat), j ≤ l.length → l.length - j = d → d < k →
    laws_toIntS.l0 k l (l.take j ++ List.replicate (l.length - j) 0) (j : Int) = some l := by
  induction d with
  | zero =>
    intro k j h1 hd hk
    obtain ⟨k, rfl⟩ : ∃ m, k = m + 1 := ⟨k - 1, by omega⟩
    have : j = l.length := by omega
    subst this
    rw [laws_toIntS.l0, if_neg (by omega)]; simp
  | succ d ih =>
    intro k j h1 hd hk
    obtain ⟨k, rfl⟩ : ∃ m, k = m + 1 := ⟨k - 1, by omega⟩
    have hj : j < l.length := by omega
    rw [laws_toIntS.l0, if_pos (by omega), if_pos (by omega), if_pos (by simp; omega), wrap_succ (n := l.length) (by omega) (by omega) (by omega)]
    have e : (j : Int).toNat = j := rfl
    have e2 : ((j : Int) + 1) = ((j + 1 : Nat) : Int) := rfl
    unfold rd
    rw [e, copy_step l j hj, e2]
    exact ih k (j + 1) (by omega) (by omega) (by omega)
theorem toIntS_f (l : List Int) (hn : l.length ≤ 17592186043904) (k : Nat) (hk : l.length < k) : laws_toIntS.f k l = some l := by
  unfold laws_toIntS.f
  rw [if_pos (by omega), if_pos (by simp; omega)]
  have := toIntS_l0 l (by omega) l.length k 0 (by omega) (by omega) hk
  simpa using this
theorem toIntS_ev (l : List Int) (hn : l.length ≤ 17592186043904) : Ev (fun k => laws_toIntS.f k l) l :=
  ⟨l.length + 1, fun k hk => toIntS_f l hn k (by omega)⟩
theorem BrickRoute_impl (p : List Int) : Ev (fun k => impl_BrickRoute.f k p) (routeOf p) := by
  unfold impl_BrickRoute.f impl_isLaid.f routeOf
  by_cases h : orderB p = true ∧ 2 ≤ p.length
  · have hn := ((orderB_iff p).1 h.1).1
    rw [if_pos h]
    refine Ev.bind (a := true) (Ev.bind (isOrder_ev p) ?_) ?_
    · have g : decide ((p.length : Int) ≥ 2) = true := decide_eq_true (by omega)
      simp only [h.1, if_true, g]; exact Ev.now _
    · simp only [if_true]
      exact Ev.bind (route_ev p h.2 hn.2) (Ev.now _)
  · rw [if_neg h]
    refine Ev.bind (a := false) (Ev.bind (isOrder_ev p) ?_) ?_
    · by_cases h1 : orderB p = true
      · have g : decide ((p.length : Int) ≥ 2) = false := decide_eq_false (by have h2 : ¬ 2 ≤ p.length := fun h2 => h ⟨h1, h2⟩; omega)
        simp only [h1, if_true, g]; exact Ev.now _
      · have h1' : orderB p = false := by simpa using h1
        simp only [h1', Bool.false_eq_true, if_false]; exact Ev.now _
    · simp only [Bool.false_eq_true, if_false]
      exact Ev.now _
theorem routeOf_small (p : List Int) : smallSS (routeOf p).1 := by
  unfold routeOf
  by_cases h : orderB p = true ∧ 2 ≤ p.length
  · have hn := ((orderB_iff p).1 h.1).1
    rw [if_pos h]
    refine ⟨by simp only; rw [routeP_length]; omega, fun r hr => ?_⟩
    have := routeP_rows p.length hn.2 _ _ _ r hr
    omega
  · rw [if_neg h]; simp [smallSS]
theorem FnExactBrickRoute : ∀ (l0 : List Int), l0.length ≤ maxLen → (∀ x ∈ l0, (Lit.int .i64 x).wf = true) → ∃ k, laws_FnExactBrickRoute.f k l0 = some true := by
  intro p _ _
  refine Ev.rounds ?_
  unfold laws_FnExactBrickRoute.f
  by_cases hp : (p.length : Int) > 1048576
  · simp only [hp, if_true]; exact Ev.now _
  · simp only [hp, if_false]
    have hs := BrickRoute_spec p
    have hi := BrickRoute_impl p
    have hsm := routeOf_small p
    generalize routeOf p = r at hs hi hsm
    have hneg := markEndSS_neg r.1 hsm
    have hneg2 : ¬ markEnd 1 p.length < 0 := by have := markEnd_eq p.length 1 (by omega) (by omega); omega
    repeat' (first
      | exact Ev.now _
      | ((with_reducible refine Ev.bind hs ?_); try dsimp only)
      | ((with_reducible refine Ev.bind hi ?_); try dsimp only)
      | ((with_reducible refine Ev.bind (toIntS_ev _ (by omega)) ?_); try dsimp only)
      | ((with_reducible refine Ev.bind (eqIntS_refl _ (by omega)) ?_); try dsimp only)
      | ((with_reducible refine Ev.bind (markIntS_ev _ _ (by omega)) ?_); try dsimp only)
      | ((with_reducible refine Ev.bind (heldIntS_ev _ _ (by omega)) ?_); try dsimp only)
      | ((with_reducible refine Ev.bind (eqIntSS_refl _ (by assumption)) ?_); try dsimp only)
      | ((with_reducible refine Ev.bind (markIntSS_ev _ _ (by assumption)) ?_); try dsimp only)
      | ((with_reducible refine Ev.bind (heldIntSS_ev _ _ (by assumption) (by omega) (by omega)) ?_); try dsimp only)
      | simp only [if_true, if_false, bne_self_eq_false, Bool.false_eq_true, eq_self, Option.bind_some, hneg, hneg2]
      )
end Go.Proofs.Ytkbojnmepapkhaa.Q
