/- The walks of functions of the given program and of its reference: each call of the machine returns what the plain Lean function of the same name says. Conditions: those in each statement. (Written by this session's program over the kit's print.) -/
import Derived.Test.YtgbpkajbddokoaaB0
import Derived.Test.YtgbpkajbddokoaaB1
import Derived.Test.YtgbpkajbddokoaaB5
namespace Go.Proofs.Ytgbpkajbddokoaa.B
open Go.RowKit Go.Proofs.YtgbpkajbddokoaaW.PrintWords Go.Proofs.YtgbpkajbddokoaaW.PrintLast Go.Proofs.YtgbpkajbddokoaaW.PrintMore
attribute [local go_sem] max2_int min2_int max_two min_two max_three min_three max_four min_four   -- for this text's walks alone
set_option linter.unusedVariables false
set_option linter.unusedSimpArgs false

/-! ### spec_lvAll: function 32 -/
mutual
def spec_lvAll.l0 : Nat → Int → List (List Int) → Int → Option ((List (List Int)))
  | 0, _, _, _ => none
  | k + 1, x0, x5, x6 => if x6 < (wrap64 (x0 - 1)) then ((spec_lvAll.f k x0 (wrap64 (x6 + 2))).bind fun t105 => (spec_lvAll.l1 k x0 x5 x6 t105 (t105.length : Int) 0)) else (some x5)
def spec_lvAll.l1 : Nat → Int → List (List Int) → Int → List (List Int) → Int → Int → Option ((List (List Int)))
  | 0, _, _, _, _, _, _ => none
  | k + 1, x0, x5, x6, x20, x21, x22 => if x22 < x21 then (if 0 ≤ x22 then (if x22 < (x20.length : Int) then ((some (([x6] : List Int) : List Int)).bind fun y109 => (if y109.length + (rd_L1 x20 x22).length < 17592186044416 then (if x5.length < 5864062014805 then (spec_lvAll.l1 k x0 (x5 ++ [(y109 ++ (rd_L1 x20 x22))]) x6 x20 x21 (wrap64 (x22 + 1))) else (none)) else (none))) else (none)) else (none)) else (spec_lvAll.l0 k x0 x5 (wrap64 (x6 + 1)))
def spec_lvAll.f : Nat → Int → Int → Option ((List (List Int)))
  | 0, _, _ => none
  | k + 1, a0, a1 => spec_lvAll.l0 k a0 (([[]] : List (List Int))) a1
end
theorem spec_lvAll.mono_l : ∀ k, (∀ y0 y1, LeO (spec_lvAll.f k y0 y1) (spec_lvAll.f (k + 1) y0 y1)) ∧ (∀ y0 y1 y2, LeO (spec_lvAll.l0 k y0 y1 y2) (spec_lvAll.l0 (k + 1) y0 y1 y2)) ∧ (∀ y0 y1 y2 y3 y4 y5, LeO (spec_lvAll.l1 k y0 y1 y2 y3 y4 y5) (spec_lvAll.l1 (k + 1) y0 y1 y2 y3 y4 y5))
  | 0 => ⟨fun _ _ r h => by simp [spec_lvAll.f] at h, fun _ _ _ r h => by simp [spec_lvAll.l0] at h, fun _ _ _ _ _ _ r h => by simp [spec_lvAll.l1] at h⟩
  | k + 1 => by
    obtain ⟨ih0, ih1, ih2⟩ := spec_lvAll.mono_l k
    refine ⟨?_, ?_, ?_⟩
    · intro y0 y1
      unfold spec_lvAll.f
      repeat' first
      | (with_reducible exact ih0 _ _)
      | (with_reducible exact ih1 _ _ _)
      | (with_reducible exact ih2 _ _ _ _ _ _)
      | (with_reducible exact LeO.refl _)
      | (with_reducible exact LeO.none _)
      | (with_reducible refine LeO.ite ?_ ?_)
      | (with_reducible refine LeO.bind ?_ (fun _ => ?_))
      | exact ih0 _ _
      | exact ih1 _ _ _
      | exact ih2 _ _ _ _ _ _
      | exact LeO.none _
      | refine LeO.ite ?_ ?_
      | refine LeO.bind ?_ (fun _ => ?_)
    · intro y0 y1 y2
      unfold spec_lvAll.l0
      repeat' first
      | (with_reducible exact ih0 _ _)
      | (with_reducible exact ih1 _ _ _)
      | (with_reducible exact ih2 _ _ _ _ _ _)
      | (with_reducible exact LeO.refl _)
      | (with_reducible exact LeO.none _)
      | (with_reducible refine LeO.ite ?_ ?_)
      | (with_reducible refine LeO.bind ?_ (fun _ => ?_))
      | exact ih0 _ _
      | exact ih1 _ _ _
      | exact ih2 _ _ _ _ _ _
      | exact LeO.none _
      | refine LeO.ite ?_ ?_
      | refine LeO.bind ?_ (fun _ => ?_)
    · intro y0 y1 y2 y3 y4 y5
      unfold spec_lvAll.l1
      repeat' first
      | (with_reducible exact ih0 _ _)
      | (with_reducible exact ih1 _ _ _)
      | (with_reducible exact ih2 _ _ _ _ _ _)
      | (with_reducible exact LeO.refl _)
      | (with_reducible exact LeO.none _)
      | (with_reducible refine LeO.ite ?_ ?_)
      | (with_reducible refine LeO.bind ?_ (fun _ => ?_))
      | exact ih0 _ _
      | exact ih1 _ _ _
      | exact ih2 _ _ _ _ _ _
      | exact LeO.none _
      | refine LeO.ite ?_ ?_
      | refine LeO.bind ?_ (fun _ => ?_)
theorem spec_lvAll.mono : ∀ a0 a1 k, LeO (spec_lvAll.f k a0 a1) (spec_lvAll.f (k + 1) a0 a1) := by
  intro a0 a1 k
  obtain ⟨ih0, ih1, ih2⟩ := spec_lvAll.mono_l k
  exact ih0 a0 a1
set_option maxHeartbeats 8000000 in
set_option maxRecDepth 100000 in
theorem spec_lvAll.calls (k : Nat) : ∀ (a0 : Int) (a1 : Int) (r : List (List Int)) (w : World) (h : spec_lvAll.f k a0 a1 = some r),
    Calls Try.prog 32 #[.int .i64 a0, .int .i64 a1] w fun e w' => ∃ v0_ : Value, e = .returned (v0_) ∧ Kd.S (Kd.slice 3 (Kd.int .i64)) 25 w' w.heap.size (fun _ => True) v0_ r ∧ Below w.heap.size w w' := by
  induction k using Nat.strongRecOn with
  | _ k ih =>
  intro a0 a1 r w h
  cases k with
  | zero => exact absurd h (by simp [spec_lvAll.f])
  | succ k =>
  simp only [spec_lvAll.f] at h
  have HB := Aside0.mk (Below.refl w.heap.size w)
  have H : (spec_lvAll.l0 k a0 (([[]] : List (List Int))) a1) = some r := h
  clear h
  obtain ⟨y102, hy102⟩ : ∃ y_ : List (List Int), y_ = (([[]] : List (List Int))) := ⟨_, rfl⟩
  replace H : (spec_lvAll.l0 k a0 y102 a1) = some r := by first | (rw [hy102]; with_reducible exact H) | (have H2_ := (Option.bind_some _ _).symm.trans H; rw [hy102]; with_reducible exact H2_) | (have H2_ := (Option.bind_some _ _).symm.trans H; with_reducible exact H2_) | with_reducible exact H | (rw [hy102]; exact H) | exact H
  have Ny102 := Aside0.mk hy102
  clear hy102
  have H' := Aside0.mk H
  clear H
  go_enter Try.func32, Try.ntmps32
  go_wp2_with (first | ((with_reducible refine gate_dst (N := 9) rfl ?_); refine Kd.S_lit (Kd.slice 3 (Kd.int .i64)) _ 25 ?hg (N := 9) ?hd (xs := ([[]] : List (List Int))) (inner := [.slice none 0 0]) (ok := fun _ => True) (okp := fun _ => True) ?hr ?hp (fun _ hk => hk) trivial (Below.refl _ _) (Nat.le_refl _) (by simp) ?_; (case hd => rfl); (case hg => rfl); (case hr => first | (go_simp; done) | (go_simp; rfl)); (case hp => exact (Reps.one (show Kd.M (Kd.slice 3 (Kd.int .i64)) _ _ _ [] [.slice none 0 0] from ⟨_, rfl, Kd.R_nil _ _ _ _ _⟩) (Reps.none _ _))); intro v103 w3 ho4 hb hg_ hnew_; clear hg_ hnew_; (first | rw [← Ny102.out] at ho4 | (simp only [Int.reduceToNat] at ho4; rw [← Ny102.out] at ho4)); have n0_ := Aside0.mk (Kd.S_lower ho4 (below_size (by repeat (first | (with_reducible first | exact HB.out | apply below_alloc | apply pw_below_drewN | apply below_drew1) | exact HB.out)))); have n1_ := Aside0.mk (below_step (by repeat (first | (with_reducible first | exact HB.out | apply below_alloc | apply pw_below_drewN | apply below_drew1) | exact HB.out)) hb); clear HB; have HO104 := n0_; have HB := n1_; clear n0_ n1_; clear hb ho4))
  go_loopg [5, 6] k (fun kq v5 v6 w' => ∃ (x5_1 : List (List Int)) (x6_1 : Int), v6 = .int .i64 x6_1 ∧ Aside0 (spec_lvAll.l0 kq a0 x5_1 x6_1 = some r) ∧ Aside0 (kq ≤ k) ∧ Aside0 (Kd.S (Kd.slice 3 (Kd.int .i64)) 25 w' w.heap.size (fun _ => True) v5 x5_1) ∧ Aside0 (Below w.heap.size w w'))
  case atStart => exact ⟨(y102), (a1), (by first | rfl | (simp; done) | (simp [*]; done)), H', ⟨Nat.le_refl _⟩, ⟨by (with_reducible repeat (first | apply Kd.S_alloc | apply Kd.S_drewN | apply Kd.S_drew)); exact HO104.out⟩, ⟨by repeat (first | (with_reducible first | exact HB.out | apply below_alloc | apply pw_below_drewN | apply below_drew1) | exact HB.out)⟩⟩
  case round =>
    clear H'
    try clear p2
    try clear c3
    obtain ⟨x5_1, x6_1, rfl, HA, HK1, HO_5, HB⟩ := hrel
    cases gk with
    | zero => exact absurd HA.out (by simp [spec_lvAll.l0])
    | succ k1 =>
      have H := HA.out
      clear HA
      simp only [spec_lvAll.l0] at H
      by_cases c5 : x6_1 < (wrap64 (a0 - 1))
      · rw [if_pos c5] at H
        have c5b0 : decide (x6_1 < (wrap64 (a0 - 1))) = true := decide_eq_true c5
        clear c5
        replace H := Option.bind_eq_some_iff.mp H
        obtain ⟨t105, A60, H⟩ := H
        replace H : (spec_lvAll.l1 k1 a0 x5_1 x6_1 t105 (t105.length : Int) 0) = some r := H
        have A6 := Aside0.mk A60
        clear A60
        have H' := Aside0.mk H
        clear H
        go_wp2_with (first | ((with_reducible refine gate_callee (f := 32) rfl ?_); refine goesL_ (some 20) rfl rfl Try.func32 (by kernel_rfl) rfl #[.int .i64 a0, .int .i64 (wrap64 (x6_1 + 2))] rfl (by (try simp only [List.map_toArray, List.map_cons, List.map_nil]); first | done | rfl | (simp only [List.length_drop, List.length_take]; rfl)) ?_; (with_reducible refine (ih k1 (by have := HK1.out; omega) a0 (wrap64 (x6_1 + 2)) t105 _ A6.out).mono ?_); rintro e w7 ⟨v106, rfl, ho0, hb⟩; refine ⟨_, rfl, ?_⟩; have n0_ := Aside0.mk (Kd.S_elder' (by (with_reducible repeat (first | apply Kd.S_alloc | apply Kd.S_drewN | apply Kd.S_drew)); exact HO_5.out) (Kd.S_base ho0) hb); have n1_ := Aside0.mk (Kd.S_lower (Kd.S_new' ho0 (Kd.S_lt (by (with_reducible repeat (first | apply Kd.S_alloc | apply Kd.S_drewN | apply Kd.S_drew)); exact HO_5.out))) (below_size (by repeat (first | (with_reducible first | exact HB.out | apply below_alloc | apply pw_below_drewN | apply below_drew1) | exact HB.out)))); have n2_ := Aside0.mk (below_step (by repeat (first | (with_reducible first | exact HB.out | apply below_alloc | apply pw_below_drewN | apply below_drew1) | exact HB.out)) hb); clear HO_5; clear HB; have HO_5 := n0_; have HO107 := n1_; have HB := n2_; clear n0_ n1_ n2_; (try clear hb); (try clear hb2); (try clear hk); (try clear hi); (try clear ho0); obtain ⟨Ao8, co8, eo8⟩ := Kd.S_slice HO107.out; subst eo8))
        go_loopg [5, 22] k1 (fun kq v5 v22 w' => ∃ (x5_2 : List (List Int)) (x22_2 : Int), v22 = .int .i64 x22_2 ∧ Aside0 (spec_lvAll.l1 kq a0 x5_2 x6_1 t105 (t105.length : Int) x22_2 = some r) ∧ Aside0 (kq ≤ k1) ∧ Aside0 (Kd.S (Kd.slice 3 (Kd.int .i64)) 25 w' w.heap.size (fun k_ => some k_ ≠ ((.slice Ao8 t105.length co8) : Value).ownBlock) v5 x5_2) ∧ Aside0 (Kd.S (Kd.slice 3 (Kd.int .i64)) 25 w' w.heap.size (fun k_ => some k_ ≠ (v5 : Value).ownBlock) (.slice Ao8 t105.length co8) t105) ∧ Aside0 (Below w.heap.size w w'))
        case atStart => exact ⟨(x5_1), (0), (by first | rfl | (simp; done) | (simp [*]; done)), H', ⟨Nat.le_refl _⟩, ⟨by (with_reducible repeat (first | apply Kd.S_alloc | apply Kd.S_drewN | apply Kd.S_drew)); exact Kd.S_mono HO_5.out (fun _ hk => hk.2)⟩, ⟨by (with_reducible repeat (first | apply Kd.S_alloc | apply Kd.S_drewN | apply Kd.S_drew)); exact Kd.S_mono HO107.out (fun _ hk => hk.2)⟩, ⟨by repeat (first | (with_reducible first | exact HB.out | apply below_alloc | apply pw_below_drewN | apply below_drew1) | exact HB.out)⟩⟩
        case round =>
          clear H'
          try clear p2
          try clear c3
          try clear c5
          try clear c5b0
          try clear p6
          try clear p2
          obtain ⟨x5_2, x22_2, rfl, HA, HK2, HO_5, HO_20, HB⟩ := hrel
          cases gk with
          | zero => exact absurd HA.out (by simp [spec_lvAll.l1])
          | succ k2 =>
            have H := HA.out
            clear HA
            simp only [spec_lvAll.l1] at H
            by_cases c9 : x22_2 < (t105.length : Int)
            · rw [if_pos c9] at H
              have c9b0 : decide (x22_2 < (t105.length : Int)) = true := decide_eq_true c9
              clear c9
              by_cases c10 : 0 ≤ x22_2
              · rw [if_pos c10] at H
                have c10b0 : decide (0 ≤ x22_2) = true := decide_eq_true c10
                clear c10
                by_cases c11 : x22_2 < (t105.length : Int)
                · rw [if_pos c11] at H
                  have c11b0 : decide (x22_2 < (t105.length : Int)) = true := decide_eq_true c11
                  clear c11
                  obtain ⟨y109, hy109⟩ : ∃ y_ : List Int, y_ = (([x6_1] : List Int)) := ⟨_, rfl⟩
                  replace H : (if y109.length + (rd_L1 t105 x22_2).length < 17592186044416 then (if x5_2.length < 5864062014805 then (spec_lvAll.l1 k2 a0 (x5_2 ++ [(y109 ++ (rd_L1 t105 x22_2))]) x6_1 t105 (t105.length : Int) (wrap64 (x22_2 + 1))) else (none)) else (none)) = some r := by first | (rw [hy109]; with_reducible exact H) | (have H2_ := (Option.bind_some _ _).symm.trans H; rw [hy109]; with_reducible exact H2_) | (have H2_ := (Option.bind_some _ _).symm.trans H; with_reducible exact H2_) | with_reducible exact H | (rw [hy109]; exact H) | exact H
                  have Ny109 := Aside0.mk hy109
                  clear hy109
                  by_cases c12 : y109.length + (rd_L1 t105 x22_2).length < 17592186044416
                  · rw [if_pos c12] at H
                    have LMc12 := Aside0.mk c12
                    clear c12
                    obtain ⟨y112, hy112⟩ : ∃ y_ : List Int, y_ = (y109 ++ (rd_L1 t105 x22_2)) := ⟨_, rfl⟩
                    replace H : (if x5_2.length < 5864062014805 then (spec_lvAll.l1 k2 a0 (x5_2 ++ [y112]) x6_1 t105 (t105.length : Int) (wrap64 (x22_2 + 1))) else (none)) = some r := by first | (rw [hy112]; with_reducible exact H) | (have H2_ := (Option.bind_some _ _).symm.trans H; rw [hy112]; with_reducible exact H2_) | (have H2_ := (Option.bind_some _ _).symm.trans H; with_reducible exact H2_) | with_reducible exact H | (rw [hy112]; exact H) | exact H
                    have Ny112 := Aside0.mk hy112
                    clear hy112
                    by_cases c13 : x5_2.length < 5864062014805
                    · rw [if_pos c13] at H
                      have LMc13 := Aside0.mk c13
                      clear c13
                      obtain ⟨y115, hy115⟩ : ∃ y_ : List (List Int), y_ = (x5_2 ++ [y112]) := ⟨_, rfl⟩
                      replace H : (spec_lvAll.l1 k2 a0 y115 x6_1 t105 (t105.length : Int) (wrap64 (x22_2 + 1))) = some r := by first | (rw [hy115]; with_reducible exact H) | (have H2_ := (Option.bind_some _ _).symm.trans H; rw [hy115]; with_reducible exact H2_) | (have H2_ := (Option.bind_some _ _).symm.trans H; with_reducible exact H2_) | with_reducible exact H | (rw [hy115]; exact H) | exact H
                      have Ny115 := Aside0.mk hy115
                      clear hy115
                      have H' := Aside0.mk H
                      clear H
                      have p108 : 0 ≤ (x22_2 : Int) := of_decide_eq_true (by first | (with_reducible assumption) | assumption)
                      have q108 : x22_2 < (t105.length : Int) := of_decide_eq_true (by first | (with_reducible assumption) | assumption)
                      obtain ⟨ad108, A108_0, c108_0, e108, hx108_0, hl108_0, hi108_0⟩ := at_L1 (Kd.S_reads' HO_20.out).2.2 x22_2 p108 q108
                      cases e108
                      obtain ⟨ce108, hce108, hMe108, hcc108⟩ := Kd.S_get HO_20.out [] x22_2 p108 (by first | exact q108 | exact of_decide_eq_true (by first | (with_reducible assumption) | assumption) | (have e_ := (Kd.S_reads' HO_20.out).1; omega))
                      obtain ⟨ve108_0, rfl, ge108_0⟩ := hMe108
                      have hv108_0 := hcc108 0 _ rfl
                      rw [Nat.add_zero, show ((Kd.slice 3 (Kd.int .i64))).sz = 1 from rfl, Nat.mul_one] at hv108_0
                      replace hv108_0 := Option.some.inj (hv108_0.symm.trans hx108_0)
                      rw [hv108_0] at ge108_0
                      have HL108_0 := Aside0.mk (show Kd.R (Kd.int .i64) 3 _ _ _ _ (rd_L1 t105 x22_2) from ge108_0)
                      clear hv108_0 ge108_0
                      clear hcc108 hce108
                      have HR108_0 := Aside0.mk hi108_0
                      have HC108_0 := Aside0.mk hl108_0
                      clear hi108_0 hl108_0
                      replace p108 := eq_true p108
                      replace q108 := eq_true q108
                      go_wp2_with (first | ((with_reducible refine gate_dst (N := 28) rfl ?_); refine Kd.R_lit (Kd.int .i64) _ 3 ?hg (N := 28) ?hd (xs := ([x6_1] : List Int)) (inner := [.int .i64 x6_1]) (ok := fun _ => True) (okp := fun _ => True) ?hr ?hp (fun _ hk => hk) trivial (Below.refl _ _) (Nat.le_refl _) (by simp) ?_; (case hd => rfl); (case hg => rfl); (case hr => first | (go_simp; done) | (go_simp; rfl)); (case hp => exact (Reps.one (show Kd.M (Kd.int .i64) _ _ _ x6_1 [.int .i64 x6_1] from rfl) (Reps.none _ _))); intro v110 w14 ho15 hb hg_ hnew_; clear hg_ hnew_; (first | rw [← Ny109.out] at ho15 | (simp only [Int.reduceToNat] at ho15; rw [← Ny109.out] at ho15)); have n0_ := Aside0.mk (Kd.S_elder' (by (with_reducible repeat (first | apply Kd.S_alloc | apply Kd.S_drewN | apply Kd.S_drew)); exact HO_5.out) (Kd.R_base ho15) hb); have n1_ := Aside0.mk (Kd.S_elder' (by (with_reducible repeat (first | apply Kd.S_alloc | apply Kd.S_drewN | apply Kd.S_drew)); exact HO_20.out) (Kd.R_base ho15) hb); have n2_ := Aside0.mk (Kd.R_elder' (by (with_reducible repeat (first | apply Kd.R_alloc | apply Kd.R_drewN | apply Kd.R_drew)); exact HL108_0.out) (Kd.R_base ho15) hb); have n3_ := Aside0.mk (Kd.R_lower (Kd.R_new' ho15 (Kd.R_lt (by (with_reducible repeat (first | apply Kd.R_alloc | apply Kd.R_drewN | apply Kd.R_drew)); exact HL108_0.out))) (below_size (by repeat (first | (with_reducible first | exact HB.out | apply below_alloc | apply pw_below_drewN | apply below_drew1) | exact HB.out)))); have n4_ := Aside0.mk (Kd.C_below (by repeat (first | (with_reducible exact HR108_0.out) | (with_reducible refine Kd.C_alloc ?_ _) | (with_reducible refine Kd.C_drewN ?_ _) | (with_reducible refine Kd.C_drew ?_) | exact HR108_0.out)) hb); have n5_ := Aside0.mk (below_step (by repeat (first | (with_reducible first | exact HB.out | apply below_alloc | apply pw_below_drewN | apply below_drew1) | exact HB.out)) hb); clear HO_5; clear HO_20; clear HL108_0; clear HR108_0; clear HB; have HO_5 := n0_; have HO_20 := n1_; have HL108_0 := n2_; have HO111 := n3_; have HR108_0 := n4_; have HB := n5_; clear n0_ n1_ n2_ n3_ n4_ n5_; clear hb ho15) | ((with_reducible refine gate_builtin (b := .append) (xs := #[.tmp 28, .tmp 29]) rfl ?_); at_builtin; refine Kd.R_append_rows (Kd.int .i64) (w0 := w) w.heap.size rfl (.tmp 28) (.tmp 29) 25 3 (.int .i64 0) 8 rfl Try.underlying25 info3 rfl (by decide) (by omega) v110 y109 (rd_L1 t105 x22_2) _ _ _ (fun k_ => some k_ ≠ (.slice A108_0 (rd_L1 t105 x22_2).length c108_0 : Value).ownBlock) (fun _ => False) rfl rfl ?aO ?aR (fun _ _ h => h) (fun _ h => h.elim) ?aF ?aB ?aS ?aL ?_; (case aR => repeat (first | exact (by repeat (first | (with_reducible exact HR108_0.out) | (with_reducible refine Kd.C_alloc ?_ _) | (with_reducible refine Kd.C_drewN ?_ _) | (with_reducible refine Kd.C_drew ?_) | exact HR108_0.out)) | (with_reducible refine Kd.C_alloc ?_ _) | (with_reducible refine Kd.C_drewN ?_ _) | (with_reducible refine Kd.C_drew ?_))); (case aB => exact (by repeat (first | (with_reducible first | exact HB.out | apply below_alloc | apply pw_below_drewN | apply below_drew1) | exact HB.out))); (case aF => exact (fun k_ hk => Kd.fresh' (Kd.R_lt (by (with_reducible repeat (first | apply Kd.R_alloc | apply Kd.R_drewN | apply Kd.R_drew)); exact HL108_0.out)) k_ hk)); (case aO => exact (by (with_reducible repeat (first | apply Kd.R_alloc | apply Kd.R_drewN | apply Kd.R_drew)); exact Kd.R_mono HO111.out (fun _ hk => hk.2))); (case aS => exact (below_size (by repeat (first | (with_reducible first | exact HB.out | apply below_alloc | apply pw_below_drewN | apply below_drew1) | exact HB.out)))); (case aL => have := LMc12.out; omega); intro v113 w16 ho hb hg hat; rw [← Ny112.out] at ho; have n0_ := Aside0.mk (Kd.S_after (ok := (fun k_ => some k_ ≠ (.slice (some ad108) t105.length co8 : Value).ownBlock)) (by (with_reducible repeat (first | apply Kd.S_alloc | apply Kd.S_drewN | apply Kd.S_drew)); exact HO_5.out) hg hat); have n1_ := Aside0.mk (Kd.S_after (ok := (fun k_ => some k_ ≠ (u5 : Value).ownBlock)) (by (with_reducible repeat (first | apply Kd.S_alloc | apply Kd.S_drewN | apply Kd.S_drew)); exact HO_20.out) hg hat); have n2_ := Aside0.mk (Kd.R_after (ok := (fun k_ => some k_ ≠ (u5 : Value).ownBlock ∧ some k_ ≠ (.slice (some ad108) t105.length co8 : Value).ownBlock)) (by (with_reducible repeat (first | apply Kd.R_alloc | apply Kd.R_drewN | apply Kd.R_drew)); exact HL108_0.out) hg hat); have n3_ := Aside0.mk (hb); have n4_ := Aside0.mk (ho); clear HO_5; clear HO_20; clear HL108_0; clear HB; clear HO111; have HO_5 := n0_; have HO_20 := n1_; have HL108_0 := n2_; have HB := n3_; have HO114 := n4_; clear n0_ n1_ n2_ n3_ n4_; clear ho hb hg hat; obtain ⟨Ao18, co18, eo18⟩ := Kd.R_slice HO114.out; subst eo18) | ((with_reducible refine gate_builtin (b := .append) (xs := #[.tmp 26, .tmp 31]) rfl ?_); at_builtin; refine Kd.S_append (Kd.slice 3 (Kd.int .i64)) (w0 := w) w.heap.size rfl (.tmp 26) (.tmp 31) 41 25 (.slice none 0 0) 24 rfl Try.underlying41 info25 rfl (by decide) (by omega) u5 x5_2 y112 [.slice Ao18 y112.length co18] (fun k_ => some k_ ≠ (.slice (some ad108) t105.length co8 : Value).ownBlock) (fun k_ => some k_ = (.slice Ao18 y112.length co18 : Value).ownBlock) rfl rfl ?aP (fun k_ hk_ => ((Kd.R_mono (ok' := fun k_ => ((fun k_ => some k_ ≠ (.slice (some ad108) t105.length co8 : Value).ownBlock)) k_ ∧ some k_ ≠ (u5 : Value).ownBlock) (Kd.R_apart' (Kd.R_apart' (HO114.out) (Kd.S_typed HO_20.out) (by decide)) (Kd.S_typed HO_5.out) (by decide)) (fun k_ hk => ⟨hk.1.2, hk.2⟩))).1 k_ hk_.symm) ?aF ?aO ?aB ?aS ?aL ?_; (case aP => exact Kd.M_row (Kd.R_mono (Kd.R_tight rfl (Kd.R_mono (ok' := fun k_ => ((fun k_ => some k_ ≠ (.slice (some ad108) t105.length co8 : Value).ownBlock)) k_ ∧ some k_ ≠ (u5 : Value).ownBlock) (Kd.R_apart' (Kd.R_apart' (HO114.out) (Kd.S_typed HO_20.out) (by decide)) (Kd.S_typed HO_5.out) (by decide)) (fun k_ hk => ⟨hk.1.2, hk.2⟩))) (fun _ h_ => h_))); (case aB => exact (by repeat (first | (with_reducible first | exact HB.out | apply below_alloc | apply pw_below_drewN | apply below_drew1) | exact HB.out))); (case aF => exact (fun k_ hk => Kd.fresh' (Kd.S_lt (by (with_reducible repeat (first | apply Kd.S_alloc | apply Kd.S_drewN | apply Kd.S_drew)); exact HO_20.out)) k_ hk)); (case aO => exact (by (with_reducible repeat (first | apply Kd.S_alloc | apply Kd.S_drewN | apply Kd.S_drew)); exact Kd.S_mono HO_5.out (fun k_ hk => ⟨hk.1, fun e_ => hk.2 e_⟩))); (case aS => exact (below_size (by repeat (first | (with_reducible first | exact HB.out | apply below_alloc | apply pw_below_drewN | apply below_drew1) | exact HB.out)))); (case aL => have := LMc13.out; omega); intro v116 w17 ho hb hg hat; rw [← Ny115.out] at ho; have n0_ := Aside0.mk (Kd.S_after (ok := (fun k_ => some k_ ≠ (.slice Ao18 y112.length co18 : Value).ownBlock)) (by (with_reducible repeat (first | apply Kd.S_alloc | apply Kd.S_drewN | apply Kd.S_drew)); exact Kd.S_mono HO_20.out (fun _ hk => ⟨hk.2, hk.1⟩)) hg hat); have n1_ := Aside0.mk (Kd.R_after (ok := (fun k_ => some k_ ≠ (.slice (some ad108) t105.length co8 : Value).ownBlock ∧ some k_ ≠ (.slice Ao18 y112.length co18 : Value).ownBlock)) (by (with_reducible repeat (first | apply Kd.R_alloc | apply Kd.R_drewN | apply Kd.R_drew)); exact Kd.R_mono HL108_0.out (fun _ hk => ⟨⟨hk.1.2, hk.2⟩, hk.1.1⟩)) hg hat); have n2_ := Aside0.mk (hb); have n3_ := Aside0.mk (ho); clear HO_20; clear HL108_0; clear HB; clear HO_5; clear HO114; have HO_20 := n0_; have HL108_0 := n1_; have HB := n2_; have HO117 := n3_; clear n0_ n1_ n2_ n3_; clear ho hb hg hat))
                      go_roundg k2
                      case measure => have := HK1.out; have := HK2.out; omega
                      case rel => exact ⟨(y115), (wrap64 (x22_2 + 1)), (by first | rfl | (simp; done) | (simp [*]; done)), H', ⟨by have := HK1.out; have := HK2.out; omega⟩, ⟨by (with_reducible repeat (first | apply Kd.S_alloc | apply Kd.S_drewN | apply Kd.S_drew)); exact HO117.out⟩, ⟨by (with_reducible repeat (first | apply Kd.S_alloc | apply Kd.S_drewN | apply Kd.S_drew)); exact Kd.S_mono HO_20.out (fun _ hk => hk.2)⟩, ⟨by repeat (first | (with_reducible first | exact HB.out | apply below_alloc | apply pw_below_drewN | apply below_drew1) | exact HB.out)⟩⟩
                    · rw [if_neg c13] at H
                      exact absurd H (by simp)
                  · rw [if_neg c12] at H
                    exact absurd H (by simp)
                · rw [if_neg c11] at H
                  exact absurd H (by simp)
              · rw [if_neg c10] at H
                exact absurd H (by simp)
            · rw [if_neg c9] at H
              have c9b0 : decide (x22_2 < (t105.length : Int)) = false := decide_eq_false c9
              clear c9
              have H' := Aside0.mk H
              clear H
              go_wp2
              go_roundg k2
              case measure => have := HK1.out; have := HK2.out; omega
              case rel => exact ⟨(x5_2), (wrap64 (x6_1 + 1)), (by first | rfl | (simp; done) | (simp [*]; done)), H', ⟨by have := HK1.out; have := HK2.out; omega⟩, ⟨by (with_reducible repeat (first | apply Kd.S_alloc | apply Kd.S_drewN | apply Kd.S_drew)); exact Kd.S_mono HO_5.out (fun _ hk => trivial)⟩, ⟨by repeat (first | (with_reducible first | exact HB.out | apply below_alloc | apply pw_below_drewN | apply below_drew1) | exact HB.out)⟩⟩
      · rw [if_neg c5] at H
        have c5b0 : decide (x6_1 < (wrap64 (a0 - 1))) = false := decide_eq_false c5
        clear c5
        obtain rfl := Option.some.inj H
        go_wp2
        go_ret
        exact ⟨_, by first | rfl | (simp [errW_none, errW_some] <;> rfl) | (simp [*, errW_none, errW_some] <;> rfl), by (with_reducible repeat (first | apply Kd.S_alloc | apply Kd.S_drewN | apply Kd.S_drew)); exact HO_5.out, by repeat (first | (with_reducible first | exact HB.out | apply below_alloc | apply pw_below_drewN | apply below_drew1) | exact HB.out)⟩

/-! ### slices_Clone_int_int: function 54 -/
def slices_Clone_int_int.f (l0 : List Int) : Option (List Int) := if l0.length ≤ 17592186044416 then some l0 else none
set_option maxHeartbeats 2000000 in
set_option maxRecDepth 100000 in
theorem slices_Clone_int_int.calls (A0 : Option Addr) (c0 : Nat) (l0 : List Int) (r : List Int) (w : World) (hr0 : Kd.C (Kd.int .i64) w A0 l0.length l0) (hc0 : l0.length ≤ c0) (h : slices_Clone_int_int.f l0 = some r) :
    Calls Try.prog 54 #[.slice A0 l0.length c0] w fun e w' => ∃ v0_ : Value, e = .returned (v0_) ∧ Kd.R (Kd.int .i64) 3 w' w.heap.size (fun _ => True) v0_ r ∧ Below w.heap.size w w' := by
  unfold slices_Clone_int_int.f at h
  by_cases hb : l0.length ≤ 17592186044416
  · rw [if_pos hb] at h
    obtain rfl := Option.some.inj h
    clear h
    have q22 : ∀ (w : World) (a : Option Addr) (n c n' c' : Nat), (binOp .eql 25 (.slice a n c) (.slice none n' c')).run Try.prog w = .ok (.bool a.isNone) w := fun w a n c n' c' => Lib.run_eql_slice_nil w _ _ a n c n' c' Try.underlying25
    cases A0 with
    | none =>
      have h0 : l0 = [] := by
        have := hr0.2.2
        cases l0 with
        | nil => rfl
        | cons x t => obtain ⟨ad, e, _⟩ := this (by simp); cases e
      subst h0
      clear hr0
      go_enter Try.func54, Try.ntmps54
      go_wp2
      go_ret
      exact ⟨_, rfl, Kd.R_nil _ _ _ _ _, Below.refl _ _⟩
    | some ad =>
      have A := Aside0.mk (show ∀ j u, (encs (Value.int .i64) l0)[j]? = some u → w.cell? (ad.add j) = some u from fun j u hj => by
        obtain ⟨hj1, hj2⟩ := List.getElem?_eq_some_iff.1 hj
        have hj1' : j < l0.length := by simpa [encs] using hj1
        obtain ⟨ad', e, hcell⟩ := Kd.at_int hr0 (j : Int) (by omega) (by omega)
        injection e with e
        subst e
        rw [show ((j : Int)).toNat = j from rfl] at hcell
        rw [hcell, ← hj2]
        simp [encs, rd, hj1'])
      have HC := Aside0.mk hc0
      have HBB := Lib.hid hb
      clear hr0 hc0 hb
      obtain ⟨i0, hi, hz0, hz1, hz2⟩ := info_parts info3
      go_enter Try.func54, Try.ntmps54
      go_wp2_with (at_builtin; refine wpList_append_own _ rfl _ _ 25 rfl w.heap.size 3 i0 (.int .i64 0) 1 8 Try.underlying25 hi hz0 hz1 hz2 rfl (by decide) _ _ _ rfl (World.ownsRow_made w #[] 0 (Nat.le_refl _) (Nat.zero_le _) (by simp)) ad l0.length c0 (encs (Value.int .i64) l0) rfl ?qc1 ?qc2 ?qc3 ?qc4 ?qc5 ?qc6 ?_)
      case qc1 => simp [encs]
      case qc2 =>
        intro j u hj
        exact Lib.cell?_alloc_some _ (A.out j u hj)
      case qc3 => intro u hu; simp [encs] at hu; obtain ⟨x, _, rfl⟩ := hu; rfl
      case qc4 => have := HBB.out; simp [maxLen]; omega
      case qc5 => have := HBB.out; omega
      case qc6 => simp
      intro v' w1 hown hgrow hnil
      go_wp2
      go_ret
      refine ⟨v', rfl, Kd.R_of_own (by simpa using hown) (fun _ _ => trivial), ?_⟩
      exact ((Below.refl _ w).alloc (Nat.le_refl _) _).grown hgrow (by simp) (by intro k hk; simp [Value.ownBlock] at hk; omega)
  · rw [if_neg hb] at h
    exact absurd h (by simp)


/-! ### impl_allLevels: function 44 -/
/-- all levels that begin with the rungs done, from a place on (f: depth enough) -/
def lvl (n1 : Nat) : Nat → Nat → List Int → List (List Int)
  | 0, _, done => [done]
  | f + 1, fr, done => done :: (List.range' fr (n1 - fr)).flatMap fun q => lvl n1 f (q + 2) (done ++ [(q : Int)])
def lvlTo (n1 : Nat) : Nat → Nat → List Int → Nat → List (List Int)
  | 0, _, done, _ => [done]
  | f + 1, fr, done, r => done :: (List.range' fr (r - fr)).flatMap fun q => lvl n1 f (q + 2) (done ++ [(q : Int)])
theorem lvlTo_start (n1 f fr : Nat) (done : List Int) : lvlTo n1 f fr done fr = [done] := by cases f <;> simp [lvlTo]
theorem lvlTo_end (n1 f fr : Nat) (done : List Int) (r : Nat) (h : r = max fr n1) : lvlTo n1 f fr done r = lvl n1 f fr done := by
  cases f with
  | zero => rfl
  | succ f => have : r - fr = n1 - fr := by omega
              simp [lvlTo, lvl, this]
theorem lvlTo_succ (n1 f fr : Nat) (done : List Int) (r : Nat) (h : fr ≤ r) : lvlTo n1 (f + 1) fr done (r + 1) = lvlTo n1 (f + 1) fr done r ++ lvl n1 f (r + 2) (done ++ [(r : Int)]) := by
  have e : r + 1 - fr = (r - fr) + 1 := by omega
  have e2 : fr + (r - fr) = r := by omega
  simp [lvlTo, e, List.range'_concat, e2]
theorem lvlTo_le (n1 f fr : Nat) (done : List Int) (r : Nat) (h : r ≤ max fr n1) : (lvlTo n1 f fr done r).length ≤ (lvl n1 f fr done).length := by
  cases f with
  | zero => simp [lvlTo, lvl]
  | succ f =>
    have e : n1 - fr = (r - fr) + (n1 - fr - (r - fr)) := by omega
    simp only [lvlTo, lvl, List.length_cons]
    rw [e, ← List.range'_append_1, List.flatMap_append, List.length_append]
    omega
set_option maxHeartbeats 4000000 in
set_option maxRecDepth 100000 in
theorem allLevels_gen (n : Nat) (hn1 : 2 ≤ n) (hn : n ≤ 8) (f : Nat) : ∀ (fr : Nat) (A : Option Addr) (c : Nat) (done : List Int) (vo : Value) (outs : List (List Int)) (okD okO : Nat → Prop) (w0 w : World)
    (hfr : fr ≤ 20) (hf : n - 1 ≤ fr + 2 * f) (hdl : done.length + f ≤ 20) (hlen : outs.length + (lvl (n - 1) f fr done).length ≤ 100000) (hB : Below w0.heap.size w0 w)
    (hD : Kd.R (Kd.int .i64) 3 w w0.heap.size okD (.slice A done.length c) done) (hO : Kd.S (Kd.slice 3 (Kd.int .i64)) 25 w w0.heap.size okO vo outs) (hap : ∀ k, okD k → ¬ okO k),
    Calls Try.prog 44 #[.int .i64 n, .slice A done.length c, .int .i64 fr, vo] w fun e w' => ∃ v, e = .returned v ∧ Kd.S (Kd.slice 3 (Kd.int .i64)) 25 w' w0.heap.size (fun k => okO k ∨ okD k ∨ w.heap.size ≤ k) v (outs ++ lvl (n - 1) f fr done) ∧ Below w0.heap.size w0 w' ∧ Kept w w' (fun k => some k = vo.ownBlock) ∧ (v.ownBlock = vo.ownBlock ∨ ∃ b, v.ownBlock = some b ∧ w.heap.size ≤ b) := by
  induction f using Nat.strongRecOn with
  | _ f ih =>
  intro fr A c done vo outs okD okO w0 w hfr hf hdl hlen hB hD hO hap
  have hwn : wrap64 ((n : Int) - 2) = (n : Int) - 2 := by unfold wrap64; omega
  have HWN := Lib.hid hwn
  clear hwn
  have hD' : Kd.R (Kd.int .i64) 3 w w0.heap.size (fun k => okD k ∧ w0.heap.size ≤ k ∧ k < w.heap.size) (.slice A done.length c) done := Kd.R_mono (Kd.R_bound hD) (fun k hk => ⟨hk.1, hk.2.1, hk.2.2.1⟩)
  have hO' : Kd.S (Kd.slice 3 (Kd.int .i64)) 25 w w0.heap.size (fun k => okO k ∧ w0.heap.size ≤ k ∧ k < w.heap.size) vo outs := Kd.S_mono (Kd.S_bound hO) (fun k hk => ⟨hk.1, hk.2.1, hk.2.2.1⟩)
  have hvo : ∀ k, vo.ownBlock = some k → okO k := (Kd.S_R hO).1
  have hvol : ∀ k, vo.ownBlock = some k → k < w.heap.size := Kd.S_lt hO
  have HD := Aside0.mk hD
  have HDB := Aside0.mk hD'
  have HOB := Aside0.mk hO'
  have HB := Aside0.mk hB
  have HAP := Aside0.mk hap
  have HVO := Aside0.mk hvo
  have HVL := Aside0.mk hvol
  have HLE := Lib.hid hlen
  have HL1 := Lib.hid (show outs.length + 1 ≤ 100000 by
    have := lvlTo_le (n - 1) f fr done fr (by omega)
    rw [lvlTo_start] at this
    simp at this
    omega)
  clear hD hO hap hB hD' hO' hvo hvol hlen
  go_enter Try.func44, Try.ntmps44
  go_wp2_with (first | ((with_reducible refine gate_builtin (b := .append) (xs := #[.tmp 10, .tmp 12]) rfl ?_); at_builtin; refine Kd.S_append (Kd.slice 3 (Kd.int .i64)) (w0 := w0) w0.heap.size rfl (.tmp 10) (.tmp 12) 41 25 (.slice none 0 0) 24 rfl Try.underlying41 info25 rfl (by decide) (by omega) vo outs done [.slice A done.length c] (fun k => okO k ∨ okD k ∨ w.heap.size ≤ k) (fun k => okD k ∧ w0.heap.size ≤ k ∧ k < w.heap.size) rfl rfl ?aP ?aK ?aF ?aO ?aB ?aS ?aL ?_; (case aP => exact ⟨_, rfl, HDB.out⟩); (case aK => exact fun k hk => ⟨.inr (.inl hk.1), fun e => HAP.out k hk.1 (HVO.out k e.symm)⟩); (case aF => exact fun k hk => .inr (.inr hk)); (case aO => exact Kd.S_mono HOB.out (fun k hk => ⟨.inl hk.1, fun h => HAP.out k h.1 hk.1⟩)); (case aB => exact HB.out); (case aS => exact HB.out.size); (case aL => exact (by have := HL1.out; omega)); intro v1 w1 ho hb hg hat))
  have HS1 := Aside0.mk (Kd.S_mono ho (fun k hk => hk))
  have HK1 := Aside0.mk (Kept.of_grown (S := fun k => some k = vo.ownBlock) hg (Kept.refl w _) (fun k e => .inl e.symm))
  have HB1 := Aside0.mk hb
  have HA1 := Aside0.mk hat
  clear ho hb hg hat
  go_loopg [3, 9] (n + 1) (fun gg v3 v9 wr => ∃ r : Nat, fr ≤ r ∧ r ≤ max fr (n - 1) ∧ n - r ≤ gg ∧ v9 = .int .i64 (r : Int) ∧ Aside0 (Kd.S (Kd.slice 3 (Kd.int .i64)) 25 wr w0.heap.size (fun k => okO k ∨ okD k ∨ w.heap.size ≤ k) v3 (outs ++ lvlTo (n - 1) f fr done r)) ∧ Aside0 (Below w0.heap.size w0 wr) ∧ Aside0 (Kept w wr (fun k => some k = vo.ownBlock)) ∧ Aside0 (v3.ownBlock = vo.ownBlock ∨ ∃ b, v3.ownBlock = some b ∧ w.heap.size ≤ b))
  case atStart => exact ⟨fr, Nat.le_refl _, by omega, by omega, rfl, ⟨by rw [lvlTo_start]; exact HS1.out⟩, ⟨HB1.out⟩, ⟨HK1.out⟩, ⟨HA1.out⟩⟩
  case round =>
    clear HS1 HB1 HK1 HA1
    obtain ⟨r, hr1, hr2, hg, rfl, HS, HBr, HK, HA⟩ := hrel
    by_cases hlt : r < n - 1
    · obtain ⟨f', rfl⟩ : ∃ f', f = f' + 1 := ⟨f - 1, by omega⟩
      have c1 : (r : Int) ≤ (n : Int) - 2 := by omega
      have c2 : decide ((r : Int) ≤ (n : Int) - 2) = true := decide_eq_true c1
      have HDR : Aside0 (Kd.R (Kd.int .i64) 3 wr w0.heap.size okD (.slice A done.length c) done) := ⟨Kd.R_kept HD.out HK.out (fun k hk e => HAP.out k hk (HVO.out k e.symm))⟩
      have hdl' : done.length ≤ 20 := by omega
      have ecl : slices_Clone_int_int.f done = some done := by unfold slices_Clone_int_int.f; rw [if_pos (by omega)]
      have hcl := slices_Clone_int_int.calls A c done done wr (Kd.R_reads' HDR.out).2.2 (Kd.R_reads' HDR.out).2.1 ecl
      have HC2 := Lib.hid c2
      have HLT := Lib.hid hlt
      clear c1 hdl' ecl
      have e2 : wrap64 ((r : Int) + 2) = ((r + 2 : Nat) : Int) := by unfold wrap64; omega
      have HE2 := Lib.hid e2
      have HDL := Lib.hid hdl
      obtain ⟨y, hy⟩ : ∃ y : List Int, y = done ++ [(r : Int)] := ⟨_, rfl⟩
      have HY := Lib.hid hy
      have HYL := Lib.hid (show y.length + f' ≤ 20 by rw [hy]; simp; omega)
      have HLV := Lib.hid (show (outs ++ lvlTo (n - 1) (f' + 1) fr done r).length + (lvl (n - 1) f' (r + 2) y).length ≤ 100000 by
        have h1 := lvlTo_le (n - 1) (f' + 1) fr done (r + 1) (by omega)
        rw [lvlTo_succ _ _ _ _ _ hr1, List.length_append] at h1
        rw [List.length_append, hy]
        have := HLE.out
        omega)
      have HLS := Lib.hid (lvlTo_succ (n - 1) f' fr done r hr1)
      have HF := Lib.hid (show n - 1 ≤ r + 2 + 2 * f' by omega)
      have HR20 := Lib.hid (show r + 2 ≤ 20 by omega)
      clear e2 HDR hy hlt
      go_wp2_with (first | ((with_reducible refine gate_callee (f := 54) rfl ?_); refine goesL_ (some 23) rfl rfl Try.func54 (by kernel_rfl) rfl #[.slice A done.length c] rfl (by (try simp only [List.map_toArray, List.map_cons, List.map_nil]); first | done | rfl) ?_; refine hcl.mono ?_; rintro e w2 ⟨v2, rfl, hR2, hb2⟩; refine ⟨_, rfl, ?_⟩; have HR2 := Aside0.mk hR2; have HB2 := Aside0.mk (below_step HBr.out hb2); have HS2 := Aside0.mk (Kd.S_below (Kd.S_mono (Kd.S_bound HS.out) (fun k hk => (⟨hk.1, hk.2.2.1⟩ : (okO k ∨ okD k ∨ w.heap.size ≤ k) ∧ k < wr.heap.size))) hb2); have HK2 := Aside0.mk (Kept.below HK.out hb2); have HZ2 := Aside0.mk hb2.size; clear hR2 hb2) | ((with_reducible refine gate_builtin (b := .append) (xs := #[.tmp 23, .tmp 25]) rfl ?_); at_builtin; refine Kd.R_append (Kd.int .i64) (w0 := w0) w0.heap.size rfl (.tmp 23) (.tmp 25) 25 3 (.int .i64 0) 8 rfl Try.underlying25 info3 rfl (by decide) (by omega) v2 done (r : Int) [.int .i64 (r : Int)] (fun k => wr.heap.size ≤ k) (fun _ => False) rfl rfl ?bP (fun _ hk => hk.elim) ?bF ?bO ?bB ?bS ?bL ?_; (case bP => exact rfl); (case bF => exact fun k hk => Nat.le_trans HZ2.out hk); (case bO => exact Kd.R_lower (Kd.R_mono (Kd.R_bound HR2.out) (fun k hk => hk.2.1)) HBr.out.size); (case bB => exact HB2.out); (case bS => exact HB2.out.size); (case bL => exact (by have := HDL.out; omega)); intro v3 w3 ho hb hg hat; rw [← HY.out] at ho; obtain ⟨A3, c3, e3⟩ := Kd.R_slice ho; subst e3; have HR3 := Aside0.mk ho; have HB3 := Aside0.mk hb; have HS3 := Aside0.mk (Kd.S_grown HS2.out hg (fun k hk e => by have h1 := Kd.R_base HR2.out k e.symm; have h2 := hk.2; omega)); have HK3 := Aside0.mk (Kept.of_grown (S := fun k => some k = vo.ownBlock) hg HK2.out (fun k e => .inr (Nat.le_trans HK.out.1 (Kd.R_base HR2.out k e)))); clear ho hb hg hat) | ((with_reducible refine gate_callee (f := 44) rfl ?_); refine goesL_ (some 30) rfl rfl Try.func44 (by kernel_rfl) rfl #[.int .i64 (n : Int), .slice A3 y.length c3, .int .i64 ((r + 2 : Nat) : Int), _] rfl (by (try simp only [List.map_toArray, List.map_cons, List.map_nil, HE2.out]); first | done | rfl) ?_; refine (ih f' (by omega) (r + 2) A3 c3 y _ (outs ++ lvlTo (n - 1) (f' + 1) fr done r) (fun k => wr.heap.size ≤ k) (fun k => (okO k ∨ okD k ∨ w.heap.size ≤ k) ∧ k < wr.heap.size) w0 _ HR20.out HF.out HYL.out HLV.out HB3.out HR3.out HS3.out (fun k h1 h2 => absurd h2.2 (Nat.not_lt.2 h1))).mono ?_; rintro e w4 ⟨v4, rfl, hS4, hB4, hK4, hA4⟩; refine ⟨_, rfl, ?_⟩; have HS4 := Aside0.mk (Kd.S_mono (ok' := fun k => okO k ∨ okD k ∨ w.heap.size ≤ k) hS4 (fun k hk => hk.elim (fun h => h.1) (fun h => .inr (.inr (h.elim (fun h => Nat.le_trans HK.out.1 h) (fun h => Nat.le_trans HK3.out.1 h)))))); have HB4 := Aside0.mk hB4; have HK4 := Aside0.mk (Kept.then_ (S := fun k => some k = vo.ownBlock) HK3.out hK4 (fun k e => HA.out.elim (fun h => .inl (e.trans h)) (fun ⟨b, hb, hle⟩ => .inr (by rw [hb] at e; injection e with e; omega)))); have HA4 := Aside0.mk (hA4.elim (fun h => HA.out.elim (fun h2 => (.inl (h.trans h2) : v4.ownBlock = vo.ownBlock ∨ ∃ b, v4.ownBlock = some b ∧ w.heap.size ≤ b)) (fun ⟨b, hb, hle⟩ => .inr ⟨b, h.trans hb, hle⟩)) (fun ⟨b, hb, hle⟩ => .inr ⟨b, hb, Nat.le_trans HK3.out.1 hle⟩)); clear hS4 hB4 hK4 hA4))
      go_roundg (n - (r + 1))
      case measure => have := HLT.out; omega
      case rel => exact ⟨r + 1, by omega, by have := HLT.out; omega, by omega, by go_num, ⟨by rw [HLS.out, ← HY.out, ← List.append_assoc]; exact HS4.out⟩, ⟨HB4.out⟩, ⟨HK4.out⟩, ⟨HA4.out⟩⟩
    · have c2 : decide ((r : Int) ≤ (n : Int) - 2) = false := decide_eq_false (by omega)
      have he := lvlTo_end (n - 1) f fr done r (by omega)
      have HE := Lib.hid he
      clear he hlt
      go_wp2
      go_ret
      exact ⟨_, rfl, by rw [← HE.out]; exact HS.out, HBr.out, HK.out, HA.out⟩


/-! ### impl_AllLevels: function 23 -/
def impl_AllLevels.f (a0 : Int) : Option ((List (List Int)) × Bool) := some (if inB a0 2 8 = true then (lvl (a0.toNat - 1) 8 0 [], true) else ([], false))
theorem lvl_small : ∀ m, m ≤ 7 → (lvl m 8 0 []).length ≤ 1000 := by decide +kernel
set_option maxHeartbeats 4000000 in
set_option maxRecDepth 100000 in
theorem impl_AllLevels.calls (a0 : Int) (r1 : List (List Int)) (r2 : Bool) (w : World) (h : impl_AllLevels.f a0 = some (r1, r2)) :
    Calls Try.prog 23 #[.int .i64 a0] w fun e w' => ∃ v0_ : Value, e = .returned (.tuple #[v0_, .bool r2]) ∧ Kd.S (Kd.slice 3 (Kd.int .i64)) 25 w' w.heap.size (fun _ => True) v0_ r1 ∧ Below w.heap.size w w' := by
  unfold impl_AllLevels.f at h
  have hw : impl_isWires.f a0 = some (inB a0 2 8) := by
    unfold impl_isWires.f impl_between.f inB
    split
    · rename_i h; simp [h]
    · rename_i h; simp; omega
  by_cases hin : inB a0 2 8 = true
  · rw [if_pos hin] at h
    obtain ⟨rfl, rfl⟩ : lvl (a0.toNat - 1) 8 0 [] = r1 ∧ true = r2 := by simpa using h
    clear h
    have hin2 : 2 ≤ a0 ∧ a0 ≤ 8 := by unfold inB at hin; simpa using hin
    obtain ⟨n, rfl⟩ : ∃ n : Nat, a0 = n := ⟨a0.toNat, by omega⟩
    rw [hin] at hw
    have e1 : ((n : Int).toNat - 1) = n - 1 := by omega
    rw [e1]
    have HL := Lib.hid (lvl_small (n - 1) (by omega))
    have hcw := impl_isWires.calls (n : Int) true w hw
    have hN : 2 ≤ n ∧ n ≤ 8 := by omega
    have HN := Lib.hid hN
    clear hin hw hin2 e1 hN
    go_enter Try.func23, Try.ntmps23
    go_wp2_with (first | (go_at_call 34; refine hcw.mono ?_; rintro e w' ⟨rfl, ⟨q, rfl⟩⟩) | ((with_reducible refine gate_callee (f := 44) rfl ?_); refine goesL_ (some 8) rfl rfl Try.func44 (by kernel_rfl) rfl #[.int .i64 (n : Int), .slice none ([] : List Int).length 0, .int .i64 ((0 : Nat) : Int), .slice none 0 0] rfl (by (try simp only [List.map_toArray, List.map_cons, List.map_nil]); first | done | rfl | (simp only [List.length_drop, List.length_take]; rfl)) ?_; refine (allLevels_gen n HN.out.1 HN.out.2 8 0 none 0 [] (.slice none 0 0) [] (fun _ => False) (fun _ => False) w _ (by omega) (by have := HN.out; omega) (by simp) (by have := HL.out; simp; omega) (pw_below_drewN (Below.refl _ _) _) (Kd.R_nil _ _ _ _ _) (Kd.S_nil _ _ _ _ _) (fun _ h => h.elim)).mono ?_; rintro e w2 ⟨v, rfl, hS, hb, _, _⟩; refine ⟨_, rfl, ?_⟩; have HS := Aside0.mk (Kd.S_mono (ok' := fun _ => True) hS (fun _ _ => trivial)); have HB := Aside0.mk hb; clear hS hb))
    go_ret2
    exact ⟨_, rfl, by simpa using HS.out, HB.out⟩
  · rw [if_neg hin] at h
    obtain ⟨rfl, rfl⟩ : [] = r1 ∧ false = r2 := by simpa using h
    have hin' : inB a0 2 8 = false := by simpa using hin
    rw [hin'] at hw
    have hcw := impl_isWires.calls a0 false w hw
    clear h hin hw hin'
    go_enter Try.func23, Try.ntmps23
    go_wp2_with (first | (go_at_call 34; refine hcw.mono ?_; rintro e w' ⟨rfl, ⟨q, rfl⟩⟩))
    go_ret2
    exact ⟨_, rfl, Kd.S_nil _ _ _ _ _, pw_below_drewN (Below.refl _ _) _⟩


end Go.Proofs.Ytgbpkajbddokoaa.B
