/- The walks of functions of the given program and of its reference: each call of the machine returns what the plain Lean function of the same name says. Conditions: those in each statement. (Written by this session's program over the kit's print.) -/
import Derived.Test.YtojbmihkdlkkcaaB0
import Derived.Test.YtojbmihkdlkkcaaB1
import Derived.Test.YtojbmihkdlkkcaaB2
namespace Go.Proofs.Ytojbmihkdlkkcaa.B
open Go.RowKit Go.Proofs.YtojbmihkdlkkcaaW.PrintWords Go.Proofs.YtojbmihkdlkkcaaW.PrintLast Go.Proofs.YtojbmihkdlkkcaaW.PrintMore
attribute [local go_sem] max2_int min2_int max_two min_two max_three min_three max_four min_four   -- for this text's walks alone
set_option linter.unusedVariables false
set_option linter.unusedSimpArgs false

/-! ### spec_CountDepths: function 6 -/
mutual
def spec_CountDepths.l0 : Nat → List Int → List Int → Int → Int → Option (List Int × Bool)
  | 0, _, _, _, _ => none
  | k + 1, x4, x11, x12, x13 => if x13 < x12 then (if 0 ≤ x13 then (if x13 < (x11.length : Int) then (spec_CountDepths.l1 k x4 (rd x11 x13) x11 x12 x13) else (none)) else (none)) else (some (x4, true))
def spec_CountDepths.l1 : Nat → List Int → Int → List Int → Int → Int → Option (List Int × Bool)
  | 0, _, _, _, _, _ => none
  | k + 1, x4, x6, x11, x12, x13 => if (x4.length : Int) ≤ x6 then (if x4.length < 17592186044416 then (spec_CountDepths.l1 k (x4 ++ [0]) x6 x11 x12 x13) else (none)) else (if 0 ≤ x6 then (if x6 < (x4.length : Int) then (spec_CountDepths.l0 k (x4.set (x6 : Int).toNat (wrap64 ((rd x4 x6) + 1))) x11 x12 (wrap64 (x13 + 1))) else (none)) else (none))
end
def spec_CountDepths.f (k : Nat) (a0 : Int) : Option (List Int × Bool) := (spec_l1In.f a0 2 6).bind fun t181 => (if t181 = true then ((spec_lvFar.f k a0).bind fun t182 => (spec_CountDepths.l0 k ([] : List Int) t182 (t182.length : Int) 0)) else (some (([] : List Int), false)))
theorem spec_CountDepths.mono_l : ∀ k, (∀ y0 y1 y2 y3, LeO (spec_CountDepths.l0 k y0 y1 y2 y3) (spec_CountDepths.l0 (k + 1) y0 y1 y2 y3)) ∧ (∀ y0 y1 y2 y3 y4, LeO (spec_CountDepths.l1 k y0 y1 y2 y3 y4) (spec_CountDepths.l1 (k + 1) y0 y1 y2 y3 y4))
  | 0 => ⟨fun _ _ _ _ r h => by simp [spec_CountDepths.l0] at h, fun _ _ _ _ _ r h => by simp [spec_CountDepths.l1] at h⟩
  | k + 1 => by
    obtain ⟨ih0, ih1⟩ := spec_CountDepths.mono_l k
    refine ⟨?_, ?_⟩
    · intro y0 y1 y2 y3
      unfold spec_CountDepths.l0
      repeat' first
      | (with_reducible exact ih0 _ _ _ _)
      | (with_reducible exact ih1 _ _ _ _ _)
      | (with_reducible exact spec_lvFar.mono _ _)
      | (with_reducible exact LeO.refl _)
      | (with_reducible exact LeO.none _)
      | (with_reducible refine LeO.ite ?_ ?_)
      | (with_reducible refine LeO.bind ?_ (fun _ => ?_))
      | exact ih0 _ _ _ _
      | exact ih1 _ _ _ _ _
      | exact spec_lvFar.mono _ _
      | exact LeO.none _
      | refine LeO.ite ?_ ?_
      | refine LeO.bind ?_ (fun _ => ?_)
    · intro y0 y1 y2 y3 y4
      unfold spec_CountDepths.l1
      repeat' first
      | (with_reducible exact ih0 _ _ _ _)
      | (with_reducible exact ih1 _ _ _ _ _)
      | (with_reducible exact spec_lvFar.mono _ _)
      | (with_reducible exact LeO.refl _)
      | (with_reducible exact LeO.none _)
      | (with_reducible refine LeO.ite ?_ ?_)
      | (with_reducible refine LeO.bind ?_ (fun _ => ?_))
      | exact ih0 _ _ _ _
      | exact ih1 _ _ _ _ _
      | exact spec_lvFar.mono _ _
      | exact LeO.none _
      | refine LeO.ite ?_ ?_
      | refine LeO.bind ?_ (fun _ => ?_)
theorem spec_CountDepths.mono : ∀ a0 k, LeO (spec_CountDepths.f k a0) (spec_CountDepths.f (k + 1) a0) := by
  intro a0 k
  obtain ⟨ih0, ih1⟩ := spec_CountDepths.mono_l k
  unfold spec_CountDepths.f
  repeat' first
      | (with_reducible exact ih0 _ _ _ _)
      | (with_reducible exact ih1 _ _ _ _ _)
      | (with_reducible exact spec_lvFar.mono _ _)
      | (with_reducible exact LeO.refl _)
      | (with_reducible exact LeO.none _)
      | (with_reducible refine LeO.ite ?_ ?_)
      | (with_reducible refine LeO.bind ?_ (fun _ => ?_))
      | exact ih0 _ _ _ _
      | exact ih1 _ _ _ _ _
      | exact spec_lvFar.mono _ _
      | exact LeO.none _
      | refine LeO.ite ?_ ?_
      | refine LeO.bind ?_ (fun _ => ?_)
set_option maxHeartbeats 8000000 in
set_option maxRecDepth 100000 in
theorem spec_CountDepths.calls (k : Nat) (a0 : Int) (r1 : List Int) (r2 : Bool) (w : World) (h : spec_CountDepths.f k a0 = some (r1, r2)) :
    Calls Try.prog 6 #[.int .i64 a0] w fun e w' => ∃ v0_ : Value, e = .returned (.tuple #[v0_, .bool r2]) ∧ Kd.R (Kd.int .i64) 3 w' w.heap.size (fun _ => True) v0_ r1 ∧ Below w.heap.size w w' := by
  have HB := Aside0.mk (Below.refl w.heap.size w)
  have H : ((spec_l1In.f a0 2 6).bind fun t181 => (if t181 = true then ((spec_lvFar.f k a0).bind fun t182 => (spec_CountDepths.l0 k ([] : List Int) t182 (t182.length : Int) 0)) else (some (([] : List Int), false)))) = some (r1, r2) := h
  clear h
  replace H := Option.bind_eq_some_iff.mp H
  obtain ⟨t181, A20, H⟩ := H
  replace H : (if t181 = true then ((spec_lvFar.f k a0).bind fun t182 => (spec_CountDepths.l0 k ([] : List Int) t182 (t182.length : Int) 0)) else (some (([] : List Int), false))) = some (r1, r2) := H
  have A2 := Aside0.mk A20
  clear A20
  by_cases c3 : t181 = true
  · subst c3
    have H1 : ((spec_lvFar.f k a0).bind fun t182 => (spec_CountDepths.l0 k ([] : List Int) t182 (t182.length : Int) 0)) = some (r1, r2) := by rw [if_pos rfl] at H; exact H
    clear H
    have H := H1
    clear H1
    replace H := Option.bind_eq_some_iff.mp H
    obtain ⟨t182, A40, H⟩ := H
    replace H : (spec_CountDepths.l0 k ([] : List Int) t182 (t182.length : Int) 0) = some (r1, r2) := H
    have A4 := Aside0.mk A40
    clear A40
    have H' := Aside0.mk H
    clear H
    go_enter Try.func6, Try.ntmps6
    go_wp2_with (first | ((with_reducible refine gate_callee (f := 19) rfl ?_); refine goesL_ (some 8) rfl rfl Try.func19 (by kernel_rfl) rfl #[.int .i64 a0, .int .i64 2, .int .i64 6] rfl (by (try simp only [List.map_toArray, List.map_cons, List.map_nil]); first | done | rfl | (simp only [List.length_drop, List.length_take]; rfl)) ?_; (with_reducible refine (spec_l1In.calls a0 2 6 true _ A2.out).mono ?_); rintro e w' ⟨rfl, ⟨nd, rfl⟩⟩; refine ⟨_, rfl, ?_⟩) | ((with_reducible refine gate_callee (f := 20) rfl ?_); refine goesL_ (some 11) rfl rfl Try.func20 (by kernel_rfl) rfl #[.int .i64 a0] rfl (by (try simp only [List.map_toArray, List.map_cons, List.map_nil]); first | done | rfl | (simp only [List.length_drop, List.length_take]; rfl)) ?_; (with_reducible refine (spec_lvFar.calls k a0 t182 _ A4.out).mono ?_); rintro e w5 ⟨v183, rfl, ho0, hb⟩; refine ⟨_, rfl, ?_⟩; have n0_ := Aside0.mk (Kd.R_lower ho0 (below_size (by repeat (first | (with_reducible first | exact HB.out | apply below_alloc | apply pw_below_drewN | apply below_drew1) | exact HB.out)))); have n1_ := Aside0.mk (below_step (by repeat (first | (with_reducible first | exact HB.out | apply below_alloc | apply pw_below_drewN | apply below_drew1) | exact HB.out)) hb); clear HB; have HO184 := n0_; have HB := n1_; clear n0_ n1_; (try clear hb); (try clear hb2); (try clear hk); (try clear hi); (try clear ho0); obtain ⟨Ao6, co6, eo6⟩ := Kd.R_slice HO184.out; subst eo6))
    go_loopg [4, 13] k (fun kq v4 v13 w' => ∃ (x4_1 : List Int) (x11_1 : List Int) (x13_1 : Int), v13 = .int .i64 x13_1 ∧ Aside0 (spec_CountDepths.l0 kq x4_1 x11_1 (t182.length : Int) x13_1 = some (r1, r2)) ∧ Aside0 (kq ≤ k) ∧ Aside0 (Kd.R (Kd.int .i64) 3 w' w.heap.size (fun k_ => some k_ ≠ ((.slice Ao6 t182.length co6) : Value).ownBlock) v4 x4_1) ∧ Aside0 (Kd.R (Kd.int .i64) 3 w' w.heap.size (fun k_ => some k_ ≠ (v4 : Value).ownBlock) (.slice Ao6 t182.length co6) x11_1) ∧ Aside0 (Below w.heap.size w w'))
    case atStart => exact ⟨(([] : List Int)), (t182), (0), (by first | rfl | (simp; done) | (simp [*]; done)), H', ⟨Nat.le_refl _⟩, ⟨by first | exact Kd.R_nil _ _ _ _ _ | exact Kd.N_nil _ _ _ _ _ | exact Kd.V_nil _ _ _ _ _ | exact Kd.Q_nil _ _ _ _ _ | exact Kd.S_nil _ _ _ _ _⟩, ⟨by (with_reducible repeat (first | apply Kd.R_alloc | apply Kd.R_drewN | apply Kd.R_drew)); exact Kd.R_mono HO184.out (fun _ hk => (by simp [Value.ownBlock]))⟩, ⟨by repeat (first | (with_reducible first | exact HB.out | apply below_alloc | apply pw_below_drewN | apply below_drew1) | exact HB.out)⟩⟩
    case round =>
      clear H'
      try clear c1
      try clear c2
      try clear p2
      try clear c3
      try clear c6
      obtain ⟨x4_1, x11_1, x13_1, rfl, HA, HK1, HO_4, HO_11, HB⟩ := hrel
      have hl11_1 := (Kd.R_reads' HO_11.out).1
      rw [hl11_1] at HO_11
      (try simp only [hl11_1])
      (try simp only [hl11_1] at HO_4)
      cases gk with
      | zero => exact absurd HA.out (by simp [spec_CountDepths.l0])
      | succ k1 =>
        have H := HA.out
        clear HA
        simp only [spec_CountDepths.l0] at H
        by_cases c7 : x13_1 < (t182.length : Int)
        · rw [if_pos c7] at H
          have c7b0 : decide (x13_1 < (t182.length : Int)) = true := decide_eq_true c7
          (try have c7d0 : decide (x13_1 < (x11_1.length : Int)) = true := by rw [← hl11_1]; exact c7b0)
          clear c7
          by_cases c8 : 0 ≤ x13_1
          · rw [if_pos c8] at H
            have c8b0 : decide (0 ≤ x13_1) = true := decide_eq_true c8
            clear c8
            by_cases c9 : x13_1 < (x11_1.length : Int)
            · rw [if_pos c9] at H
              have c9b0 : decide (x13_1 < (x11_1.length : Int)) = true := decide_eq_true c9
              (try have c9d0 : decide (x13_1 < (x11_1.length : Int)) = true := by rw [← hl11_1]; exact c9b0)
              clear c9
              have H' := Aside0.mk H
              clear H
              have p185 : 0 ≤ (x13_1 : Int) := of_decide_eq_true (by first | (with_reducible assumption) | assumption)
              have q185 : x13_1 < (x11_1.length : Int) := of_decide_eq_true (by first | (with_reducible assumption) | assumption)
              obtain ⟨ad185, e185, hx185_0⟩ := Kd.at_int (Kd.R_reads' HO_11.out).2.2 x13_1 p185 q185
              cases e185
              replace p185 := eq_true p185
              replace q185 := eq_true q185
              go_wp2
              go_loopg [4] k1 (fun kq v4 w' => ∃ (x4_2 : List Int), Aside0 (spec_CountDepths.l1 kq x4_2 (rd x11_1 x13_1) x11_1 (t182.length : Int) x13_1 = some (r1, r2)) ∧ Aside0 (kq ≤ k1) ∧ Aside0 (Kd.R (Kd.int .i64) 3 w' w.heap.size (fun k_ => some k_ ≠ ((.slice (some ad185) x11_1.length co6) : Value).ownBlock) v4 x4_2) ∧ Aside0 (Kd.R (Kd.int .i64) 3 w' w.heap.size (fun k_ => some k_ ≠ (v4 : Value).ownBlock) (.slice (some ad185) x11_1.length co6) x11_1) ∧ Aside0 (Below w.heap.size w w'))
              case atStart => exact ⟨(x4_1), H', ⟨Nat.le_refl _⟩, ⟨by (try simp only [hl11_1]); (with_reducible repeat (first | apply Kd.R_alloc | apply Kd.R_drewN | apply Kd.R_drew)); exact HO_4.out⟩, ⟨by (try simp only [hl11_1]); (with_reducible repeat (first | apply Kd.R_alloc | apply Kd.R_drewN | apply Kd.R_drew)); exact HO_11.out⟩, ⟨by repeat (first | (with_reducible first | exact HB.out | apply below_alloc | apply pw_below_drewN | apply below_drew1) | exact HB.out)⟩⟩
              case round =>
                clear H'
                try clear c1
                try clear p1
                try clear q1
                try clear hx1
                try clear c2
                try clear p2
                try clear c3
                try clear c6
                try clear c7
                try clear c7b0
                try clear c8
                try clear c8b0
                try clear c9
                try clear c9b0
                try clear hx185_0
                try clear p185
                try clear p2
                try clear q185
                obtain ⟨x4_2, HA, HK2, HO_4, HO_11, HB⟩ := hrel
                cases gk with
                | zero => exact absurd HA.out (by simp [spec_CountDepths.l1])
                | succ k2 =>
                  have H := HA.out
                  clear HA
                  simp only [spec_CountDepths.l1] at H
                  by_cases c10 : (x4_2.length : Int) ≤ (rd x11_1 x13_1)
                  · rw [if_pos c10] at H
                    have c10b0 : decide ((x4_2.length : Int) ≤ (rd x11_1 x13_1)) = true := decide_eq_true c10
                    clear c10
                    by_cases c11 : x4_2.length < 17592186044416
                    · rw [if_pos c11] at H
                      have LMc11 := Aside0.mk c11
                      clear c11
                      obtain ⟨y186, hy186⟩ : ∃ y_ : List Int, y_ = (x4_2 ++ [0]) := ⟨_, rfl⟩
                      replace H : (spec_CountDepths.l1 k2 y186 (rd x11_1 x13_1) x11_1 (t182.length : Int) x13_1) = some (r1, r2) := by first | (rw [hy186]; with_reducible exact H) | (have H2_ := (Option.bind_some _ _).symm.trans H; rw [hy186]; with_reducible exact H2_) | (have H2_ := (Option.bind_some _ _).symm.trans H; with_reducible exact H2_) | with_reducible exact H | (rw [hy186]; exact H) | exact H
                      have Ny186 := Aside0.mk hy186
                      clear hy186
                      have H' := Aside0.mk H
                      clear H
                      obtain ⟨Ao12, co12, eo12⟩ := Kd.R_slice HO_4.out
                      subst eo12
                      go_wp2_with (first | ((with_reducible refine gate_builtin (b := .append) (xs := #[.tmp 21, .tmp 22]) rfl ?_); at_builtin; refine Kd.R_append (Kd.int .i64) (w0 := w) w.heap.size rfl (.tmp 21) (.tmp 22) 22 3 (.int .i64 0) 8 rfl Try.underlying22 info3 rfl (by decide) (by omega) (.slice Ao12 x4_2.length co12) x4_2 0 [.int .i64 0] (fun k_ => some k_ ≠ (.slice (some ad185) x11_1.length co6 : Value).ownBlock) (fun _ => False) rfl rfl ?aP (fun _ hk => hk.elim) ?aF ?aO ?aB ?aS ?aL ?_; (case aP => exact rfl); (case aB => exact (by repeat (first | (with_reducible first | exact HB.out | apply below_alloc | apply pw_below_drewN | apply below_drew1) | exact HB.out))); (case aF => exact (fun k_ hk => Kd.fresh' (Kd.R_lt (by (with_reducible repeat (first | apply Kd.R_alloc | apply Kd.R_drewN | apply Kd.R_drew)); exact HO_11.out)) k_ hk)); (case aO => exact (by (with_reducible repeat (first | apply Kd.R_alloc | apply Kd.R_drewN | apply Kd.R_drew)); exact HO_4.out)); (case aS => exact (below_size (by repeat (first | (with_reducible first | exact HB.out | apply below_alloc | apply pw_below_drewN | apply below_drew1) | exact HB.out)))); (case aL => have := LMc11.out; omega); intro v187 w13 ho hb hg hat; rw [← Ny186.out] at ho; have n0_ := Aside0.mk (Kd.R_after (ok := (fun _ => True)) (by (with_reducible repeat (first | apply Kd.R_alloc | apply Kd.R_drewN | apply Kd.R_drew)); exact Kd.R_mono HO_11.out (fun _ hk => ⟨trivial, hk⟩)) hg hat); have n1_ := Aside0.mk (hb); have n2_ := Aside0.mk (ho); clear HO_11; clear HB; clear HO_4; have HO_11 := n0_; have HB := n1_; have HO188 := n2_; clear n0_ n1_ n2_; clear ho hb hg hat))
                      go_roundg k2
                      case measure => have := HK1.out; have := HK2.out; omega
                      case rel => exact ⟨(y186), H', ⟨by have := HK1.out; have := HK2.out; omega⟩, ⟨by (try simp only [hl11_1]); (with_reducible repeat (first | apply Kd.R_alloc | apply Kd.R_drewN | apply Kd.R_drew)); exact HO188.out⟩, ⟨by (try simp only [hl11_1]); (with_reducible repeat (first | apply Kd.R_alloc | apply Kd.R_drewN | apply Kd.R_drew)); exact Kd.R_mono HO_11.out (fun _ hk => hk.2)⟩, ⟨by repeat (first | (with_reducible first | exact HB.out | apply below_alloc | apply pw_below_drewN | apply below_drew1) | exact HB.out)⟩⟩
                    · rw [if_neg c11] at H
                      exact absurd H (by simp)
                  · rw [if_neg c10] at H
                    have c10b0 : decide ((x4_2.length : Int) ≤ (rd x11_1 x13_1)) = false := decide_eq_false c10
                    clear c10
                    by_cases c14 : 0 ≤ (rd x11_1 x13_1)
                    · rw [if_pos c14] at H
                      have c14b0 : decide (0 ≤ (rd x11_1 x13_1)) = true := decide_eq_true c14
                      clear c14
                      by_cases c15 : (rd x11_1 x13_1) < (x4_2.length : Int)
                      · rw [if_pos c15] at H
                        have c15b0 : decide ((rd x11_1 x13_1) < (x4_2.length : Int)) = true := decide_eq_true c15
                        clear c15
                        obtain ⟨y190, hy190⟩ : ∃ y_ : List Int, y_ = (x4_2.set ((rd x11_1 x13_1) : Int).toNat (wrap64 ((rd x4_2 (rd x11_1 x13_1)) + 1))) := ⟨_, rfl⟩
                        replace H : (spec_CountDepths.l0 k2 y190 x11_1 (t182.length : Int) (wrap64 (x13_1 + 1))) = some (r1, r2) := by first | (rw [hy190]; with_reducible exact H) | (have H2_ := (Option.bind_some _ _).symm.trans H; rw [hy190]; with_reducible exact H2_) | (have H2_ := (Option.bind_some _ _).symm.trans H; with_reducible exact H2_) | with_reducible exact H | (rw [hy190]; exact H) | exact H
                        have Ny190 := Aside0.mk hy190
                        clear hy190
                        have H' := Aside0.mk H
                        clear H
                        obtain ⟨Ao17, co17, eo17⟩ := Kd.R_slice HO_4.out
                        subst eo17
                        have p189 : 0 ≤ ((rd x11_1 x13_1) : Int) := of_decide_eq_true (by first | (with_reducible assumption) | assumption)
                        have q189 : (rd x11_1 x13_1) < (x4_2.length : Int) := of_decide_eq_true (by first | (with_reducible assumption) | assumption)
                        obtain ⟨ad189, e189, hx189_0⟩ := Kd.at_int (Kd.R_reads' HO_4.out).2.2 (rd x11_1 x13_1) p189 q189
                        cases e189
                        replace p189 := eq_true p189
                        replace q189 := eq_true q189
                        have p16 : 0 ≤ ((rd x11_1 x13_1) : Int) := of_decide_eq_true (by first | (with_reducible assumption) | assumption)
                        have q16 : ((rd x11_1 x13_1) : Int) < ((x4_2.length : Int) : Int) := of_decide_eq_true (by first | (with_reducible assumption) | assumption)
                        obtain ⟨go16, co16, eo16, gb16, gl16, cl16, HG16⟩ := Kd.R_form HO_4.out (by omega)
                        (first | cases eo16 | (injection eo16 with ea_ en_ ec_; (first | subst ea_ | (injection ea_ with ea_; subst ea_)); subst ec_; clear en_))
                        have GB16 := Aside0.mk gb16
                        have GG16 := Aside0.mk HG16
                        clear gb16 gl16 HG16
                        (first | simp only [add_plain] at hx189_0 | skip)
                        obtain ⟨hx16_0, hf16_0⟩ := Kd.R_celln 0 HO_4.out ((rd x11_1 x13_1) : Int) p16 q16
                        replace p16 := eq_true p16
                        replace q16 := eq_true q16
                        have HP18 := Kd.R_putg HO_4.out ((rd x11_1 x13_1) : Int) (wrap64 ((rd x4_2 (rd x11_1 x13_1)) + 1))
                        go_wp2_with (first | ((with_reducible refine gate_store (t := 3) (p := 29) rfl ?_); refine store_event (t := 3) (p := 29) (v := ?vo_w19) (w1 := (wr.setCell ⟨go16, ((rd x11_1 x13_1) : Int).toNat, none⟩ (.int .i64 (wrap64 ((rd x4_2 (rd x11_1 x13_1)) + 1))))) ?hg ?ho ?hn ?hr ?_; (case ho => rfl); (case hg => rfl); (case hn => rfl); (case hr => first | (go_simp; done) | (go_simp; rfl)); intro w19 hw; have hg : wr.grownBy w19 (some go16) := (by rw [hw]; exact HP18.2); have hp_ : Kd.R (Kd.int .i64) 3 w19 w.heap.size (fun k_ => some k_ ≠ (.slice (some ad185) x11_1.length co6 : Value).ownBlock) (.slice (some ⟨go16, 0, none⟩) x4_2.length co17) y190 := (by rw [hw, Ny190.out]; exact HP18.1); clear HP18; have n0_ := Aside0.mk (hp_); have n1_ := Aside0.mk (Kd.R_after (v := (.slice (some ⟨go16, 0, none⟩) x4_2.length co17)) (v1 := (.slice (some ⟨go16, 0, none⟩) x4_2.length co17)) (ok := (fun _ => True)) (by (with_reducible repeat (first | apply Kd.R_alloc | apply Kd.R_drewN | apply Kd.R_drew)); exact Kd.R_mono HO_11.out (fun _ hk => ⟨trivial, hk⟩)) hg (.inl rfl)); have n2_ := Aside0.mk ((by rw [hw]; exact below_set (HB.out) GB16.out : Below w.heap.size w w19)); clear HO_4; clear HO_11; clear HB; have HO_4 := n0_; have HO_11 := n1_; have HB := n2_; clear n0_ n1_ n2_; clear hg hw hp_))
                        (try simp only [← hl11_1])
                        go_roundg k2
                        case measure => have := HK1.out; have := HK2.out; omega
                        case rel => exact ⟨(y190), (x11_1), (wrap64 (x13_1 + 1)), (by first | rfl | (simp; done) | (simp [*]; done)), H', ⟨by have := HK1.out; have := HK2.out; omega⟩, ⟨by (try simp only [hl11_1]); (with_reducible repeat (first | apply Kd.R_alloc | apply Kd.R_drewN | apply Kd.R_drew)); exact HO_4.out⟩, ⟨by (try simp only [hl11_1]); (with_reducible repeat (first | apply Kd.R_alloc | apply Kd.R_drewN | apply Kd.R_drew)); exact Kd.R_mono HO_11.out (fun _ hk => hk.2)⟩, ⟨by repeat (first | (with_reducible first | exact HB.out | apply below_alloc | apply pw_below_drewN | apply below_drew1) | exact HB.out)⟩⟩
                      · rw [if_neg c15] at H
                        exact absurd H (by simp)
                    · rw [if_neg c14] at H
                      exact absurd H (by simp)
            · rw [if_neg c9] at H
              exact absurd H (by simp)
          · rw [if_neg c8] at H
            exact absurd H (by simp)
        · rw [if_neg c7] at H
          have c7b0 : decide (x13_1 < (t182.length : Int)) = false := decide_eq_false c7
          (try have c7d0 : decide (x13_1 < (x11_1.length : Int)) = false := by rw [← hl11_1]; exact c7b0)
          clear c7
          simp only [Option.some.injEq, Prod.mk.injEq] at H
          obtain ⟨rfl, rfl⟩ := H
          go_wp2
          go_ret2
          exact ⟨_, by first | rfl | (simp [errW_none, errW_some] <;> rfl) | (simp [*, errW_none, errW_some] <;> rfl), by (with_reducible repeat (first | apply Kd.R_alloc | apply Kd.R_drewN | apply Kd.R_drew)); exact Kd.R_mono HO_4.out (fun _ hk => trivial), by repeat (first | (with_reducible first | exact HB.out | apply below_alloc | apply pw_below_drewN | apply below_drew1) | exact HB.out)⟩
  · replace c3 := Bool.eq_false_iff.mpr c3
    subst c3
    have H1 : (some (([] : List Int), false)) = some (r1, r2) := by rw [if_neg (show ¬ (false = true) by decide)] at H; exact H
    clear H
    have H := H1
    clear H1
    simp only [Option.some.injEq, Prod.mk.injEq] at H
    obtain ⟨rfl, rfl⟩ := H
    go_enter Try.func6, Try.ntmps6
    go_wp2_with (first | ((with_reducible refine gate_callee (f := 19) rfl ?_); refine goesL_ (some 8) rfl rfl Try.func19 (by kernel_rfl) rfl #[.int .i64 a0, .int .i64 2, .int .i64 6] rfl (by (try simp only [List.map_toArray, List.map_cons, List.map_nil]); first | done | rfl | (simp only [List.length_drop, List.length_take]; rfl)) ?_; (with_reducible refine (spec_l1In.calls a0 2 6 false _ A2.out).mono ?_); rintro e w' ⟨rfl, ⟨nd, rfl⟩⟩; refine ⟨_, rfl, ?_⟩))
    go_ret2
    exact ⟨_, by first | rfl | (simp [errW_none, errW_some] <;> rfl) | (simp [*, errW_none, errW_some] <;> rfl), by first | exact Kd.R_nil _ _ _ _ _ | exact Kd.N_nil _ _ _ _ _ | exact Kd.V_nil _ _ _ _ _ | exact Kd.Q_nil _ _ _ _ _ | exact Kd.S_nil _ _ _ _ _, by repeat (first | (with_reducible first | exact HB.out | apply below_alloc | apply pw_below_drewN | apply below_drew1) | exact HB.out)⟩

/-! ### impl_CountDepths: function 7 -/
/-- how often each number occurs -/
def bump (out : List Int) (d : Int) : List Int := let o := out ++ List.replicate (d.toNat + 1 - out.length) 0; o.set d.toNat (wrap64 (o.getD d.toNat 0 + 1))
def impl_CountDepths.f (k : Nat) (a0 : Int) : Option (List Int × Bool) := if 2 ≤ a0 ∧ a0 ≤ 6 then (impl_depths.f k a0).bind fun q => if q.all (fun e => decide (0 ≤ e.2 ∧ e.2 < 1000)) = true then some ((q.map (·.2)).foldl bump [], true) else none else some ([], false)
theorem impl_CountDepths.mono : ∀ a0 k, LeO (impl_CountDepths.f k a0) (impl_CountDepths.f (k + 1) a0) := fun _ _ => LeO.ite (LeO.bind (impl_depths.mono _ _) fun _ => LeO.refl _) (LeO.refl _)
theorem bump_len (out : List Int) (d : Int) : (bump out d).length = max out.length (d.toNat + 1) := by
  unfold bump
  simp
  omega
theorem bump_at (out : List Int) (d : Int) (i : Nat) : (bump out d).getD i 0 = if i = d.toNat then wrap64 (out.getD i 0 + 1) else out.getD i 0 := by
  have pad : ∀ (j m : Nat), (out ++ List.replicate m (0 : Int)).getD j 0 = out.getD j 0 := by
    intro j m
    rw [List.getD_eq_getElem?_getD, List.getD_eq_getElem?_getD, List.getElem?_append]
    by_cases h : j < out.length
    · rw [if_pos h]
    · rw [if_neg h, List.getElem?_replicate, List.getElem?_eq_none (by omega)]
      split <;> rfl
  unfold bump
  simp only []
  rw [List.getD_eq_getElem?_getD, List.getElem?_set]
  by_cases h : d.toNat = i
  · subst h
    rw [if_pos rfl, if_pos rfl, if_pos (by simp; omega), pad]
    rfl
  · rw [if_neg h, if_neg (fun e => h e.symm), ← List.getD_eq_getElem?_getD, pad]
theorem ext_getD {a b : List Int} (hl : a.length = b.length) (h : ∀ i : Nat, a.getD i 0 = b.getD i 0) : a = b := by
  apply List.ext_getElem hl
  intro i h1 h2
  have := h i
  simp only [List.getD_eq_getElem?_getD, List.getElem?_eq_getElem h1, List.getElem?_eq_getElem h2] at this
  exact this
theorem bump_comm (out : List Int) (a b : Int) : bump (bump out a) b = bump (bump out b) a := by
  refine ext_getD ?_ (fun i => ?_)
  · simp only [bump_len]
    omega
  · simp only [bump_at]
    by_cases h1 : i = a.toNat <;> by_cases h2 : i = b.toNat <;> simp only [h1, h2, if_true, if_false] <;> (try simp_all)
theorem bump_perm {l l' : List Int} (h : l.Perm l') : ∀ out, l.foldl bump out = l'.foldl bump out := by
  induction h with
  | nil => intro out; rfl
  | cons x _ ih => intro out; exact ih _
  | swap x y l => intro out; simp only [List.foldl_cons]; rw [bump_comm]
  | trans _ _ ih1 ih2 => intro out; rw [ih1, ih2]
theorem map_nodup : ∀ {l : List (List Int × Int)}, (l.map (·.1)).Nodup → l.Nodup
  | [], _ => List.nodup_nil
  | a :: l, h => by
    rw [List.map_cons, List.nodup_cons] at h
    exact List.nodup_cons.2 ⟨fun hm => h.1 (List.mem_map.2 ⟨a, hm, rfl⟩), map_nodup h.2⟩
theorem map_inj : ∀ {l : List (List Int × Int)}, (l.map (·.1)).Nodup → ∀ {a b : List Int × Int}, a ∈ l → b ∈ l → a.1 = b.1 → a = b
  | c :: l, h, a, b, ha, hb, e => by
    rw [List.map_cons, List.nodup_cons] at h
    rcases List.mem_cons.1 ha with rfl | ha1
    · rcases List.mem_cons.1 hb with rfl | hb1
      · rfl
      · exact absurd (List.mem_map.2 ⟨b, hb1, e.symm⟩) h.1
    · rcases List.mem_cons.1 hb with rfl | hb1
      · exact absurd (List.mem_map.2 ⟨a, ha1, e⟩) h.1
      · exact map_inj h.2 ha1 hb1 e
/-- a map of depths is gone through: what is left -/
def DepR (w : World) (bm r : Nat) (q rest : List (List Int × Int)) (cnt : Nat) : Prop := ∃ (D : DataW Unit) (left : Lit → Bool), w.ranges Try.prog 9 (plainElem Try.prog 3) bm r q.length D left cnt ∧ DepD D q ∧ (rest.map (·.1)).Nodup ∧ (∀ e, e ∈ rest → e ∈ q) ∧ (∀ kl, left kl = true ↔ ∃ e, e ∈ rest ∧ keyL e.1 = kl)
theorem DepR.kept {w w1 : World} {bm r cnt : Nat} {q rest : List (List Int × Int)} (h : DepR w bm r q rest cnt) {row : Option Nat} (hg : w.grownBy w1 row) (h1 : some bm ≠ row) (h2 : some r ≠ row) : DepR w1 bm r q rest cnt := by
  obtain ⟨D, left, a, b⟩ := h
  exact ⟨D, left, a.kept hg h1 h2, b⟩
theorem DepR.below {w w1 : World} {bm r cnt : Nat} {q rest : List (List Int × Int)} (h : DepR w bm r q rest cnt) (hb : Below w.heap.size w w1) : DepR w1 bm r q rest cnt := h.kept (grown_of_below hb none) (by simp) (by simp)
theorem DepR.lt {w : World} {bm r cnt : Nat} {q rest : List (List Int × Int)} (h : DepR w bm r q rest cnt) : r < w.heap.size ∧ bm < w.heap.size := by
  obtain ⟨D, left, a, b⟩ := h
  exact ⟨a.lt, a.owns.lt⟩
theorem same_str {s t : List UInt8} : (Lit.string s).sameKey (Lit.string t) = decide (s = t) := by
  show (s == t) = _
  by_cases h : s = t <;> simp [h]
section
variable {ops : Array Oper} {rest : List Oper} {o : Oper} {a : Act} {Q : Exit → Act → World → Prop} {W : World}
theorem dep_range (m : Operand) (hop : o.op = .range 39 m) (hgd : o.guard = none) (bm : Nat) (q : List (List Int × Int)) (hm : a.eval m = .map (some bm)) (hD : Dep W bm q)
    (h : ∀ w1 r cnt, r = W.heap.size → DepR w1 bm r q q cnt → Below W.heap.size W w1 → wpList Try.prog ops Q rest (a.put o.dst (.pointer (some ⟨r, 0, none⟩))) w1) : wpList Try.prog ops Q (o :: rest) a W := by
  obtain ⟨D, h1, h2⟩ := hD
  refine wpList_range_own W hgd m 39 hop 9 3 str_keyed Try.underlying39 _ bm _ D hm h1 (fun w1 hr hg hs => ?_)
  refine h w1 _ _ rfl ⟨D, _, hr, h2, h2.2.2.2.2, fun _ he => he, fun kl => ⟨h2.2.2.2.1 kl, ?_⟩⟩ (pw_below_grown (Below.refl _ _) none (Nat.le_refl _) hg (by simp))
  rintro ⟨e, he, rfl⟩
  rw [h2.2.1 _ (h2.2.2.1 e he).1, List.any_eq_true]
  exact ⟨e, he, decide_eq_true rfl⟩
theorem dep_next (it : Operand) (hop : o.op = .next it false) (hgd : o.guard = none) (bm r cnt : Nat) (q left : List (List Int × Int)) (hit : a.eval it = .pointer (some ⟨r, 0, none⟩)) (hD : DepR W bm r q left cnt)
    (hDone : left = [] → wpList Try.prog ops Q rest (a.put o.dst (.tuple #[.bool false])) W)
    (hMore : ∀ (e : List Int × Int) (s : ByteArray) (w1 : World) (cnt' : Nat), e ∈ left → cnt' < cnt → DepR w1 bm r q (left.erase e) cnt' → W.grownBy w1 (some r) → w1.heap.size = W.heap.size → (Instr.entry (.pointer (some ⟨r, 0, none⟩))).run Try.prog w1 = .ok (.tuple #[.string s, .int .i64 e.2]) w1 →
      wpList Try.prog ops Q rest (a.put o.dst (.tuple #[.bool true, .string s, .int .i64 e.2])) w1) : wpList Try.prog ops Q (o :: rest) a W := by
  obtain ⟨D, lf, h1, h2, h3, h4, h5⟩ := hD
  refine wpList_next_ranges W hgd it hop 9 str_keyed (plainElem Try.prog 3) Value.string (Value.int .i64) (fun key kl hkey => ?_) (fun v y hv => ?_) bm r _ D lf cnt hit h1 (fun h0 hl => ?_) (fun x c kl y w' cnt' hkey hlk hv hat hrg hlt hgr hsz hen => ?_)
  · cases key <;> simp [keyOf, mapKey, Try.underlying9] at hkey
    exact ⟨_, rfl⟩
  · obtain ⟨c, rfl, _⟩ := plainElem_int_inv Try.underlying3 hv
    exact ⟨c, rfl⟩
  · refine hDone ?_
    cases left with
    | nil => rfl
    | cons e left =>
      have := (h5 (keyL e.1)).2 ⟨e, by simp, rfl⟩
      rw [hl] at this
      cases this
  · obtain ⟨e, he, hk⟩ := (h5 kl).1 hlk
    obtain ⟨c', ec, hy, _⟩ := plainElem_int_inv Try.underlying3 hv
    injection ec with _ ec
    subst ec
    have h6 := (h2.2.2.1 e (h4 e he)).2 (.lit (.int .i64 0))
    rw [hk, hat, hy] at h6
    have h7 : c = e.2 := by
      injection h6 with h6
      injection h6 with _ h6
    subst h7
    have hinj : ∀ e', e' ∈ left → keyL e'.1 = keyL e.1 → e' = e := by
      intro e' he' hk'
      have e1 := keyL_inj (h2.2.2.1 e' (h4 e' he')).1 (h2.2.2.1 e (h4 e he)).1 hk'
      exact map_inj h3 he' he e1
    have hnd : left.Nodup := by
      exact map_nodup h3
    refine hMore e x w' cnt' he hlt ⟨D, _, hrg, h2, ?_, fun z hz => h4 z (List.mem_of_mem_erase hz), fun z => ?_⟩ hgr hsz hen
    · exact List.Nodup.sublist (List.Sublist.map _ (List.erase_sublist ..)) h3
    · rw [Bool.and_eq_true, h5 z]
      constructor
      · rintro ⟨⟨e', he', rfl⟩, hs⟩
        refine ⟨e', (List.Nodup.mem_erase_iff hnd).2 ⟨fun ee => ?_, he'⟩, rfl⟩
        subst ee
        rw [← hk] at hs
        unfold keyL at hs
        rw [same_str] at hs
        simp at hs
      · rintro ⟨e', he', rfl⟩
        obtain ⟨hne, hm⟩ := (List.Nodup.mem_erase_iff hnd).1 he'
        refine ⟨⟨e', hm, rfl⟩, ?_⟩
        rw [← hk]
        unfold keyL
        rw [same_str, decide_eq_false (fun ee => hne (hinj e' hm (by unfold keyL; rw [ee])))]
        rfl
end
set_option maxHeartbeats 4000000 in
set_option maxRecDepth 100000 in
theorem impl_CountDepths.calls (k : Nat) (a0 : Int) (r1 : List Int) (r2 : Bool) (w : World) (h : impl_CountDepths.f k a0 = some (r1, r2)) :
 Calls Try.prog 7 #[.int .i64 a0] w fun e w' => ∃ v0_ : Value, e = .returned (.tuple #[v0_, .bool r2]) ∧ Kd.R (Kd.int .i64) 3 w' w.heap.size (fun _ => True) v0_ r1 ∧ Below w.heap.size w w' := by
  unfold impl_CountDepths.f at h
  by_cases hn : 2 ≤ a0 ∧ a0 ≤ 6
  case neg =>
    rw [if_neg hn] at h
    simp only [Option.some.injEq, Prod.mk.injEq] at h
    obtain ⟨rfl, rfl⟩ := h
    have hb : impl_between.f a0 2 6 = some false := by
      unfold impl_between.f
      split
      · rename_i h; simp; omega
      · rfl
    have HW := Aside0.mk hb
    clear hn hb
    go_enter Try.func7, Try.ntmps7
    go_wp2_with (first | (go_at_call 21; refine (impl_between.calls a0 2 6 false _ HW.out).mono ?_; rintro e w' ⟨rfl, ⟨q, rfl⟩⟩))
    go_ret2
    exact ⟨_, rfl, Kd.R_nil _ _ _ _ _, pw_below_drewN (Below.refl _ _) _⟩
  case pos =>
    rw [if_pos hn] at h
    replace h := Option.bind_eq_some_iff.mp h
    obtain ⟨q, hq, h⟩ := h
    by_cases hall : q.all (fun e => decide (0 ≤ e.2 ∧ e.2 < 1000)) = true
    case neg => rw [if_neg hall] at h; cases h
    rw [if_pos hall] at h
    simp only [Option.some.injEq, Prod.mk.injEq] at h
    obtain ⟨rfl, rfl⟩ := h
    have hb : impl_between.f a0 2 6 = some true := by
      unfold impl_between.f
      rw [if_pos hn.1]
      simp [hn.2]
    have HW := Aside0.mk hb
    have HQ := Aside0.mk hq
    have HA := Aside0.mk hall
    clear hn hb hq hall
    go_enter Try.func7, Try.ntmps7
    go_wp2_with (first | (go_at_call 21; refine (impl_between.calls a0 2 6 true _ HW.out).mono ?_; rintro e w0 ⟨rfl, ⟨qq, rfl⟩⟩) | ((with_reducible refine gate_dst (N := 10) rfl ?_); refine Kd.R_lit (Kd.int .i64) _ 3 ?hg (N := 10) ?hd (xs := ([] : List (Int))) (inner := []) (ok := fun _ => True) (okp := fun _ => True) ?hr ?hp (fun _ hk => hk) trivial (Below.refl _ _) (Nat.le_refl _) (by simp) ?_; (case hd => rfl); (case hg => rfl); (case hr => first | (go_simp; done) | (go_simp; rfl)); (case hp => exact (Reps.none _ _)); intro v1 w1 ho hb hg_ hnew_; clear hg_ hnew_; have HO := Aside0.mk (Kd.R_lower ho (show w.heap.size ≤ (w.drewN qq).heap.size from Nat.le_refl _)); have HB := Aside0.mk (below_step (pw_below_drewN (Below.refl w.heap.size w) qq) hb); clear ho hb) | ((with_reducible refine gate_callee (f := 22) rfl ?_); refine goesL_ (some 12) rfl rfl Try.func22 (by kernel_rfl) rfl #[.int .i64 a0] rfl (by (try simp only [List.map_toArray, List.map_cons, List.map_nil]); first | done | rfl) ?_; (with_reducible refine (impl_depths.calls k a0 q _ HQ.out).mono ?_); rintro e w2 ⟨bm, rfl, hbm, hD, hb⟩; refine ⟨_, rfl, ?_⟩; have HD := Aside0.mk hD; have HNE := Aside0.mk (fun k_ (e_ : v1.ownBlock = some k_) => Nat.lt_of_lt_of_le (Kd.R_lt HO.out k_ e_) hbm); replace HO := Aside0.mk (Kd.R_below HO.out hb); have HBM := Aside0.mk (Nat.le_trans HB.out.size hbm); replace HB := Aside0.mk (below_step HB.out hb); clear hbm hD hb) | ((with_reducible refine gate_dst (N := 13) rfl ?_); refine dep_range (.tmp 12) rfl rfl bm q rfl HD.out ?_; intro w3 ri cnt hri hR hb; have HR := Aside0.mk hR; have HNR := Aside0.mk (fun k_ (e_ : v1.ownBlock = some k_) => Nat.lt_of_lt_of_le (Kd.R_lt HO.out k_ e_) (Nat.le_of_eq hri.symm)); replace HO := Aside0.mk (Kd.R_below HO.out hb); have HRI := Aside0.mk (Nat.le_trans HB.out.size (Nat.le_of_eq hri.symm)); replace HB := Aside0.mk (below_step HB.out hb); clear hri hR hb))
    replace HO := Aside0.mk (Kd.R_reok (ok := fun k_ => k_ ≠ bm ∧ k_ ≠ ri) rfl HO.out (fun k_ e_ => ⟨Nat.ne_of_lt (HNE.out k_ e_), Nat.ne_of_lt (HNR.out k_ e_)⟩))
    go_frame
    go_loopg [4] cnt (fun g v4 wr => ∃ (vis left : List (List Int × Int)), Aside0 ((vis ++ left).Perm q) ∧ Aside0 (DepR wr bm ri q left g) ∧ Aside0 (Kd.R (Kd.int .i64) 3 wr w.heap.size (fun k_ => k_ ≠ bm ∧ k_ ≠ ri) v4 ((vis.map (·.2)).foldl bump [])) ∧ Aside0 (Below w.heap.size w wr))
    case atStart => exact ⟨[], q, ⟨List.Perm.refl _⟩, HR, HO, HB⟩
    case round =>
      clear HO HB HR HD HNE HNR
      obtain ⟨vis, left, HP, HR, HO, HB⟩ := hrel
      go_wp2_with (first | ((with_reducible refine gate_dst (N := 14) rfl ?_); refine dep_next (.tmp 13) rfl rfl bm ri gk q left rfl HR.out ?_ ?_))
      · intro hl
        subst hl
        go_wp2
        go_ret2
        exact ⟨_, rfl, by rw [bump_perm ((HP.out.symm.trans (by rw [List.append_nil])).map (·.2))]; exact Kd.R_mono HO.out (fun _ _ => trivial), HB.out⟩
      · intro x v s w4 cnt' he hlt hR hg hsz hen
        have hmem : (x, v) ∈ q := HP.out.mem_iff.1 (List.mem_append.2 (.inr he))
        have hd := HA.out
        rw [List.all_eq_true] at hd
        have hd2 := of_decide_eq_true (hd (x, v) hmem)
        simp only at hd2 hen
        obtain ⟨d, rfl⟩ : ∃ d : Nat, v = (d : Int) := ⟨v.toNat, by omega⟩
        obtain ⟨o0, ho0⟩ : ∃ o0, o0 = (vis.map (·.2)).foldl bump [] := ⟨_, rfl⟩
        rw [← ho0] at HO
        have HO0 := Aside0.mk ho0
        replace HO := Aside0.mk (Kd.R_grown HO.out hg (fun k_ h_ e_ => h_.2 (by injection e_)))
        replace HB := Aside0.mk (pw_below_grown HB.out (some ri) HB.out.size hg (by intro k e; injection e with e; rw [← e]; exact HRI.out))
        have HP2 := Aside0.mk (show ((vis ++ [(x, (d : Int))]) ++ left.erase (x, (d : Int))).Perm q from by
          rw [List.append_assoc]
          exact (List.Perm.append_left vis (List.perm_cons_erase he).symm).trans HP.out)
        have HLT := Lib.hid hlt
        have HD3 := Lib.hid (show d < 1000 by omega)
        clear HR hg hsz hlt he hmem hd hd2 HP ho0
        have HR := Aside0.mk hR
        clear hR
        go_wp2
        go_loopg [4] (d + 1) (fun gh v4 wr => ∃ m : Nat, m ≤ d + 1 - o0.length ∧ (d + 1 - o0.length) - m ≤ gh ∧ Aside0 (DepR wr bm ri q (left.erase (x, (d : Int))) cnt') ∧ Aside0 (Kd.R (Kd.int .i64) 3 wr w.heap.size (fun k_ => k_ ≠ bm ∧ k_ ≠ ri) v4 (o0 ++ List.replicate m 0)) ∧ Aside0 (Below w.heap.size w wr))
        case atStart => exact ⟨0, Nat.zero_le _, by omega, HR, ⟨by simpa using HO.out⟩, HB⟩
        case round =>
          clear HR HO HB hen
          obtain ⟨m, hm, hg, HR, HO, HB⟩ := hrel
          obtain ⟨Ao, co, eo⟩ := Kd.R_slice HO.out
          subst eo
          obtain ⟨o, ho⟩ : ∃ o, o = o0 ++ List.replicate m (0 : Int) := ⟨_, rfl⟩
          rw [← ho] at HO ⊢
          have hol : o.length = o0.length + m := by rw [ho]; simp
          have HOE := Aside0.mk ho
          by_cases hlt : o.length ≤ d
          · have c1 : decide ((o.length : Int) ≤ (d : Int)) = true := decide_eq_true (by omega)
            have c2 : decide (o.length ≤ d) = true := decide_eq_true hlt
            have HM := Lib.hid (show m + 1 ≤ d + 1 - o0.length ∧ d + 1 - o0.length - (m + 1) ≤ gk - 1 ∧ gk - 1 < gk by omega)
            have HL := Lib.hid (show o.length < 1000 by have := HD3.out; omega)
            clear hm hg hol hlt ho
            go_wp2_with (first | ((with_reducible refine gate_builtin (b := .append) (xs := #[.tmp 22, .tmp 23]) rfl ?_); at_builtin; refine Kd.R_append (Kd.int .i64) (w0 := w) w.heap.size rfl (.tmp 22) (.tmp 23) 22 3 (.int .i64 0) 8 rfl Try.underlying22 info3 rfl (by decide) (by omega) (.slice Ao o.length co) o 0 [.int .i64 0] (fun k_ => k_ ≠ bm ∧ k_ ≠ ri) (fun _ => False) rfl rfl rfl (fun _ hk => hk.elim) (fun k_ hk_ => ⟨fun e_ => by have := HR.out.lt; omega, fun e_ => by have := HR.out.lt; omega⟩) HO.out HB.out HB.out.size (by have := HL.out; omega) ?_; intro v5 w5 ho hb hg hat; replace HR := Aside0.mk (HR.out.kept hg (fun e_ => (HO.out.1 bm e_.symm).1 rfl) (fun e_ => (HO.out.1 ri e_.symm).2 rfl)); replace HO := Aside0.mk ho; replace HB := Aside0.mk hb; clear ho hb hg hat))
            go_roundg (gk - 1)
            case measure => exact HM.out.2.2
            case rel => exact ⟨m + 1, HM.out.1, HM.out.2.1, HR, ⟨by rw [List.replicate_succ', ← List.append_assoc, ← HOE.out]; exact HO.out⟩, HB⟩
          · have c1 : decide ((o.length : Int) ≤ (d : Int)) = false := decide_eq_false (by omega)
            have c2 : decide (o.length ≤ d) = false := decide_eq_false hlt
            have hb1 : (((vis ++ [(x, (d : Int))]).map (·.2)).foldl bump []) = o.set d (wrap64 (rd o (d : Int) + 1)) := by
              rw [List.map_append, List.foldl_append, ← HO0.out]
              show bump o0 (d : Int) = _
              unfold bump rd
              simp only [Int.toNat_natCast]
              rw [ho, show m = d + 1 - o0.length by omega]
            have HBU := Aside0.mk hb1
            have p16 : 0 ≤ ((d : Nat) : Int) := by omega
            have q16 : ((d : Nat) : Int) < (o.length : Int) := by omega
            obtain ⟨go16, co16, eo16, gb16, gl16, cl16, HG16⟩ := Kd.R_form HO.out (by omega)
            (first | cases eo16 | (injection eo16 with ea_ en_ ec_; (first | subst ea_ | (injection ea_ with ea_; subst ea_)); subst ec_; clear en_))
            have GB16 := Aside0.mk gb16
            have GG16 := Aside0.mk HG16
            clear gb16 gl16 HG16
            obtain ⟨hx16_0, hf16_0⟩ := Kd.R_celln 0 HO.out ((d : Nat) : Int) p16 q16
            replace p16 := eq_true p16
            replace q16 := eq_true q16
            have HP18 := Kd.R_putg HO.out ((d : Nat) : Int) (wrap64 (rd o (d : Int) + 1))
            simp only [Int.toNat_natCast] at hx16_0 hf16_0 HP18
            clear hm hg hol hlt ho hb1
            go_wp2_with (first | ((with_reducible refine gate_store (t := 3) (p := 30) rfl ?_); refine store_event (t := 3) (p := 30) (v := ?vo) (w1 := (wr.setCell ⟨go16, d, none⟩ (.int .i64 (wrap64 (rd o (d : Int) + 1))))) ?hg ?ho ?hn ?hr ?_; (case ho => rfl); (case hg => rfl); (case hn => rfl); (case hr => first | (go_simp; done) | (go_simp; rfl)); intro w19 hw; have hg : wr.grownBy w19 (some go16) := (by rw [hw]; exact HP18.2); have hp_ : Kd.R (Kd.int .i64) 3 w19 w.heap.size (fun k_ => k_ ≠ bm ∧ k_ ≠ ri) (.slice (some ⟨go16, 0, none⟩) o.length co) (o.set d (wrap64 (rd o (d : Int) + 1))) := (by rw [hw]; exact HP18.1); clear HP18; replace HR := Aside0.mk (HR.out.kept hg (fun e_ => (HO.out.1 bm e_.symm).1 rfl) (fun e_ => (HO.out.1 ri e_.symm).2 rfl)); replace HO := Aside0.mk hp_; replace HB := Aside0.mk (by rw [hw]; exact below_set (HB.out) GB16.out : Below w.heap.size w w19); clear hg hw hp_))
            go_roundg cnt'
            case measure => exact HLT.out
            case rel => exact ⟨vis ++ [(x, (d : Int))], left.erase (x, (d : Int)), HP2, HR, ⟨by rw [HBU.out]; exact HO.out⟩, HB⟩


/-! ### laws_markIntS: function 9 -/
def laws_markIntS.l0 : Nat → List Int → Int → Int → Option (Int × List Int)
  | 0, _, _, _ => none
  | k + 1, x0, x1, x5 => if x5 < (x0.length : Int) then (if 0 ≤ x5 then (laws_markIntS.l0 k (x0.set (x5 : Int).toNat x1) (wrap64 (x1 + 1)) (wrap64 (x5 + 1))) else (none)) else (some (x1, x0))
def laws_markIntS.f (k : Nat) (l0 : List Int) (a1 : Int) : Option (Int × List Int) := laws_markIntS.l0 k l0 a1 0
theorem laws_markIntS.mono_l : ∀ k, (∀ y0 y1 y2, LeO (laws_markIntS.l0 k y0 y1 y2) (laws_markIntS.l0 (k + 1) y0 y1 y2))
  | 0 => fun _ _ _ r h => by simp [laws_markIntS.l0] at h
  | k + 1 => by
    have ih0 := laws_markIntS.mono_l k
    · intro y0 y1 y2
      unfold laws_markIntS.l0
      repeat' first
      | (with_reducible exact ih0 _ _ _)
      | (with_reducible exact LeO.refl _)
      | (with_reducible exact LeO.none _)
      | (with_reducible refine LeO.ite ?_ ?_)
      | (with_reducible refine LeO.bind ?_ (fun _ => ?_))
      | exact ih0 _ _ _
      | exact LeO.none _
      | refine LeO.ite ?_ ?_
      | refine LeO.bind ?_ (fun _ => ?_)
theorem laws_markIntS.mono : ∀ a0 a1 k, LeO (laws_markIntS.f k a0 a1) (laws_markIntS.f (k + 1) a0 a1) := by
  intro a0 a1 k
  have ih0 := laws_markIntS.mono_l k
  unfold laws_markIntS.f
  repeat' first
      | (with_reducible exact ih0 _ _ _)
      | (with_reducible exact LeO.refl _)
      | (with_reducible exact LeO.none _)
      | (with_reducible refine LeO.ite ?_ ?_)
      | (with_reducible refine LeO.bind ?_ (fun _ => ?_))
      | exact ih0 _ _ _
      | exact LeO.none _
      | refine LeO.ite ?_ ?_
      | refine LeO.bind ?_ (fun _ => ?_)
set_option maxHeartbeats 8000000 in
set_option maxRecDepth 100000 in
theorem laws_markIntS.calls (k : Nat) (P0_ : Nat → Prop) (u9000_ : Value) (l0 : List Int) (a1 : Int) (r1 : Int) (r2 : List Int) (w0 w : World) (hB : Below w0.heap.size w0 w) (ho0 : Kd.R (Kd.int .i64) 3 w w0.heap.size P0_ u9000_ l0) (h : laws_markIntS.f k l0 a1 = some (r1, r2)) :
    Calls Try.prog 9 #[u9000_, .int .i64 a1] w fun e w' => e = .returned (.int .i64 r1) ∧ Kd.R (Kd.int .i64) 3 w' w0.heap.size (fun k_ => (P0_ k_ ∨ w.heap.size ≤ k_)) u9000_ r2 ∧ Below w0.heap.size w0 w' ∧ Kept w w' (fun k_ => P0_ k_) := by
  have HO0 := Aside0.mk (show Kd.R (Kd.int .i64) 3 w w0.heap.size (fun k_ => (P0_ k_ ∨ w.heap.size ≤ k_)) u9000_ l0 from Kd.R_mono ho0 (fun k_ hk => (.inl hk)))
  have HK := Aside0.mk (Kept.refl w (fun k_ => P0_ k_))
  have HW0 := Aside0.mk hB.size
  have HB := Aside0.mk hB
  clear hB
  have H : (laws_markIntS.l0 k l0 a1 0) = some (r1, r2) := h
  clear h
  have H' := Aside0.mk H
  clear H
  go_enter Try.func9, Try.ntmps9
  go_wp2
  go_loopg [1, 5] k (fun kq v1 v5 w' => ∃ (x0_1 : List Int) (x1_1 : Int) (x5_1 : Int), v1 = .int .i64 x1_1 ∧ v5 = .int .i64 x5_1 ∧ Aside0 (laws_markIntS.l0 kq x0_1 x1_1 x5_1 = some (r1, r2)) ∧ Aside0 (kq ≤ k) ∧ Aside0 (Kd.R (Kd.int .i64) 3 w' w0.heap.size (fun k_ => (P0_ k_ ∨ w.heap.size ≤ k_)) u9000_ x0_1) ∧ Aside0 (Kept w w' (fun k_ => P0_ k_)) ∧ Aside0 (Below w0.heap.size w0 w'))
  case atStart => exact ⟨(l0), (a1), (0), (by first | rfl | (simp; done) | (simp [*]; done)), (by first | rfl | (simp; done) | (simp [*]; done)), H', ⟨Nat.le_refl _⟩, ⟨by (with_reducible repeat (first | apply Kd.R_alloc | apply Kd.R_drewN | apply Kd.R_drew)); exact HO0.out⟩, ⟨by repeat (first | (with_reducible first | exact HK.out | apply Kept.alloc | apply Kept.drewN | apply Kept.drew) | exact HK.out)⟩, ⟨by repeat (first | (with_reducible first | exact HB.out | apply below_alloc | apply pw_below_drewN | apply below_drew1) | exact HB.out)⟩⟩
  case round =>
    clear H'
    try clear p2
    obtain ⟨x0_1, x1_1, x5_1, rfl, rfl, HA, HK1, HO_0, HK, HB⟩ := hrel
    cases gk with
    | zero => exact absurd HA.out (by simp [laws_markIntS.l0])
    | succ k1 =>
      have H := HA.out
      clear HA
      simp only [laws_markIntS.l0] at H
      by_cases c3 : x5_1 < (x0_1.length : Int)
      · rw [if_pos c3] at H
        have c3b0 : decide (x5_1 < (x0_1.length : Int)) = true := decide_eq_true c3
        clear c3
        by_cases c4 : 0 ≤ x5_1
        · rw [if_pos c4] at H
          have c4b0 : decide (0 ≤ x5_1) = true := decide_eq_true c4
          clear c4
          obtain ⟨y217, hy217⟩ : ∃ y_ : List Int, y_ = (x0_1.set (x5_1 : Int).toNat x1_1) := ⟨_, rfl⟩
          replace H : (laws_markIntS.l0 k1 y217 (wrap64 (x1_1 + 1)) (wrap64 (x5_1 + 1))) = some (r1, r2) := by first | (rw [hy217]; with_reducible exact H) | (have H2_ := (Option.bind_some _ _).symm.trans H; rw [hy217]; with_reducible exact H2_) | (have H2_ := (Option.bind_some _ _).symm.trans H; with_reducible exact H2_) | with_reducible exact H | (rw [hy217]; exact H) | exact H
          have Ny217 := Aside0.mk hy217
          clear hy217
          have H' := Aside0.mk H
          clear H
          obtain ⟨Ao6, co6, eo6⟩ := Kd.R_slice HO_0.out
          subst eo6
          have p5 : 0 ≤ (x5_1 : Int) := of_decide_eq_true (by first | (with_reducible assumption) | assumption)
          have q5 : (x5_1 : Int) < ((x0_1.length : Int) : Int) := of_decide_eq_true (by first | (with_reducible assumption) | assumption)
          obtain ⟨go5, co5, eo5, gb5, gl5, cl5, HG5⟩ := Kd.R_form HO_0.out (by omega)
          (first | cases eo5 | (injection eo5 with ea_ en_ ec_; (first | subst ea_ | (injection ea_ with ea_; subst ea_)); subst ec_; clear en_))
          have GB5 := Aside0.mk gb5
          have GG5 := Aside0.mk HG5
          clear gb5 gl5 HG5
          have HMgo5 := Aside0.mk (show (P0_ go5 ∨ w.heap.size ≤ go5) from (HO_0.out.1 _ rfl))
          obtain ⟨hx5_0, hf5_0⟩ := Kd.R_celln 0 HO_0.out (x5_1 : Int) p5 q5
          replace p5 := eq_true p5
          replace q5 := eq_true q5
          have HP7 := Kd.R_putg HO_0.out (x5_1 : Int) x1_1
          go_wp2_with (first | ((with_reducible refine gate_store (t := 3) (p := 15) rfl ?_); refine store_event (t := 3) (p := 15) (v := ?vo_w8) (w1 := (wr.setCell ⟨go5, (x5_1 : Int).toNat, none⟩ (.int .i64 x1_1))) ?hg ?ho ?hn ?hr ?_; (case ho => rfl); (case hg => rfl); (case hn => rfl); (case hr => first | (go_simp; done) | (go_simp; rfl)); intro w8 hw; have hg : wr.grownBy w8 (some go5) := (by rw [hw]; exact HP7.2); have hp_ : Kd.R (Kd.int .i64) 3 w8 w0.heap.size (fun k_ => (P0_ k_ ∨ w.heap.size ≤ k_)) (.slice (some ⟨go5, 0, none⟩) x0_1.length co6) y217 := (by rw [hw, Ny217.out]; exact HP7.1); clear HP7; have n0_ := Aside0.mk (hp_); have n1_ := Aside0.mk ((by rw [hw]; exact below_set (HB.out) GB5.out : Below w0.heap.size w0 w8)); have n2_ := Aside0.mk (Kept.of_grown (S := (fun k_ => P0_ k_)) hg (by repeat (first | (with_reducible first | exact HK.out | apply Kept.alloc | apply Kept.drewN | apply Kept.drew) | exact HK.out)) (fun k_ e_ => (HO_0.out.1 k_ e_))); clear HO_0; clear HB; clear HK; have HO_0 := n0_; have HB := n1_; have HK := n2_; clear n0_ n1_ n2_; clear hg hw hp_))
          go_roundg k1
          case measure => have := HK1.out; omega
          case rel => exact ⟨(y217), (wrap64 (x1_1 + 1)), (wrap64 (x5_1 + 1)), (by first | rfl | (simp; done) | (simp [*]; done)), (by first | rfl | (simp; done) | (simp [*]; done)), H', ⟨by have := HK1.out; omega⟩, ⟨by (with_reducible repeat (first | apply Kd.R_alloc | apply Kd.R_drewN | apply Kd.R_drew)); exact HO_0.out⟩, ⟨by repeat (first | (with_reducible first | exact HK.out | apply Kept.alloc | apply Kept.drewN | apply Kept.drew) | exact HK.out)⟩, ⟨by repeat (first | (with_reducible first | exact HB.out | apply below_alloc | apply pw_below_drewN | apply below_drew1) | exact HB.out)⟩⟩
        · rw [if_neg c4] at H
          exact absurd H (by simp)
      · rw [if_neg c3] at H
        have c3b0 : decide (x5_1 < (x0_1.length : Int)) = false := decide_eq_false c3
        clear c3
        simp only [Option.some.injEq, Prod.mk.injEq] at H
        obtain ⟨rfl, rfl⟩ := H
        obtain ⟨Ao9, co9, eo9⟩ := Kd.R_slice HO_0.out
        subst eo9
        go_wp2
        go_ret
        exact ⟨by first | rfl | (simp [errW_none, errW_some] <;> rfl) | (simp [*, errW_none, errW_some] <;> rfl), by (with_reducible repeat (first | apply Kd.R_alloc | apply Kd.R_drewN | apply Kd.R_drew)); exact HO_0.out, by repeat (first | (with_reducible first | exact HB.out | apply below_alloc | apply pw_below_drewN | apply below_drew1) | exact HB.out), by repeat (first | (with_reducible first | exact HK.out | apply Kept.alloc | apply Kept.drewN | apply Kept.drew) | exact HK.out)⟩

/-! ### laws_heldIntS: function 10 -/
def laws_heldIntS.l0 : Nat → List Int → Int → Int → Option (Int)
  | 0, _, _, _ => none
  | k + 1, x0, x1, x5 => if x5 < (x0.length : Int) then (if 0 ≤ x5 then (if (rd x0 x5) = x1 then (laws_heldIntS.l0 k x0 (wrap64 (x1 + 1)) (wrap64 (x5 + 1))) else (some (-1))) else (none)) else (some x1)
def laws_heldIntS.f (k : Nat) (l0 : List Int) (a1 : Int) : Option (Int) := laws_heldIntS.l0 k l0 a1 0
theorem laws_heldIntS.mono_l : ∀ k, (∀ y0 y1 y2, LeO (laws_heldIntS.l0 k y0 y1 y2) (laws_heldIntS.l0 (k + 1) y0 y1 y2))
  | 0 => fun _ _ _ r h => by simp [laws_heldIntS.l0] at h
  | k + 1 => by
    have ih0 := laws_heldIntS.mono_l k
    · intro y0 y1 y2
      unfold laws_heldIntS.l0
      repeat' first
      | (with_reducible exact ih0 _ _ _)
      | (with_reducible exact LeO.refl _)
      | (with_reducible exact LeO.none _)
      | (with_reducible refine LeO.ite ?_ ?_)
      | (with_reducible refine LeO.bind ?_ (fun _ => ?_))
      | exact ih0 _ _ _
      | exact LeO.none _
      | refine LeO.ite ?_ ?_
      | refine LeO.bind ?_ (fun _ => ?_)
theorem laws_heldIntS.mono : ∀ a0 a1 k, LeO (laws_heldIntS.f k a0 a1) (laws_heldIntS.f (k + 1) a0 a1) := by
  intro a0 a1 k
  have ih0 := laws_heldIntS.mono_l k
  unfold laws_heldIntS.f
  repeat' first
      | (with_reducible exact ih0 _ _ _)
      | (with_reducible exact LeO.refl _)
      | (with_reducible exact LeO.none _)
      | (with_reducible refine LeO.ite ?_ ?_)
      | (with_reducible refine LeO.bind ?_ (fun _ => ?_))
      | exact ih0 _ _ _
      | exact LeO.none _
      | refine LeO.ite ?_ ?_
      | refine LeO.bind ?_ (fun _ => ?_)
set_option maxHeartbeats 8000000 in
set_option maxRecDepth 100000 in
theorem laws_heldIntS.calls (k : Nat) (A0 : Option Addr) (c0 : Nat) (l0 : List Int) (a1 : Int) (r : Int) (w : World) (hr0 : Kd.C (Kd.int .i64) w A0 l0.length l0) (hc0 : l0.length ≤ c0) (h : laws_heldIntS.f k l0 a1 = some r) :
    Calls Try.prog 10 #[.slice A0 l0.length c0, .int .i64 a1] w fun e w' => e = .returned (.int .i64 r) ∧ Drawn0 w w' := by
  have HR0 := Aside0.mk hr0
  have HC0 := Aside0.mk hc0
  clear hr0 hc0
  have H : (laws_heldIntS.l0 k l0 a1 0) = some r := h
  clear h
  have H' := Aside0.mk H
  clear H
  go_enter Try.func10, Try.ntmps10
  go_wp2
  go_loopg [1, 5] k (fun kq v1 v5 w' => ∃ (x1_1 : Int) (x5_1 : Int), v1 = .int .i64 x1_1 ∧ v5 = .int .i64 x5_1 ∧ Aside0 (laws_heldIntS.l0 kq l0 x1_1 x5_1 = some r) ∧ Aside0 (kq ≤ k) ∧ Drawn0 w w')
  case atStart => exact ⟨(a1), (0), (by first | rfl | (simp; done) | (simp [*]; done)), (by first | rfl | (simp; done) | (simp [*]; done)), H', ⟨Nat.le_refl _⟩, by repeat (first | exact Drawn0.refl _ | apply Drawn0.step)⟩
  case round =>
    clear H'
    try clear c1
    try clear p2
    obtain ⟨x1_1, x5_1, rfl, rfl, HA, HK1, ⟨m1, rfl⟩⟩ := hrel
    cases gk with
    | zero => exact absurd HA.out (by simp [laws_heldIntS.l0])
    | succ k1 =>
      have H := HA.out
      clear HA
      simp only [laws_heldIntS.l0] at H
      by_cases c3 : x5_1 < (l0.length : Int)
      · rw [if_pos c3] at H
        have c3b0 : decide (x5_1 < (l0.length : Int)) = true := decide_eq_true c3
        clear c3
        by_cases c4 : 0 ≤ x5_1
        · rw [if_pos c4] at H
          have c4b0 : decide (0 ≤ x5_1) = true := decide_eq_true c4
          clear c4
          by_cases c5 : (rd l0 x5_1) = x1_1
          · rw [if_pos c5] at H
            have c5b0 : ((rd l0 x5_1) == x1_1) = true := beq_iff_eq.mpr c5
            have c5b1 : ((rd l0 x5_1) != x1_1) = false := bne_eq_false_iff_eq.mpr c5
            clear c5
            have H' := Aside0.mk H
            clear H
            have p218 : 0 ≤ (x5_1 : Int) := of_decide_eq_true (by first | (with_reducible assumption) | assumption)
            have q218 : x5_1 < (l0.length : Int) := of_decide_eq_true (by first | (with_reducible assumption) | assumption)
            obtain ⟨ad218, e218, hx218_0⟩ := Kd.at_int HR0.out x5_1 p218 q218
            cases e218
            replace p218 := eq_true p218
            replace q218 := eq_true q218
            go_wp2
            go_roundg k1
            case measure => have := HK1.out; omega
            case rel => exact ⟨(wrap64 (x1_1 + 1)), (wrap64 (x5_1 + 1)), (by first | rfl | (simp; done) | (simp [*]; done)), (by first | rfl | (simp; done) | (simp [*]; done)), H', ⟨by have := HK1.out; omega⟩, by repeat (first | exact Drawn0.refl _ | apply Drawn0.step)⟩
          · rw [if_neg c5] at H
            have c5b0 : ((rd l0 x5_1) == x1_1) = false := beq_eq_false_iff_ne.mpr c5
            have c5b1 : ((rd l0 x5_1) != x1_1) = true := bne_iff_ne.mpr c5
            obtain rfl := Option.some.inj H
            have p218 : 0 ≤ (x5_1 : Int) := of_decide_eq_true (by first | (with_reducible assumption) | assumption)
            have q218 : x5_1 < (l0.length : Int) := of_decide_eq_true (by first | (with_reducible assumption) | assumption)
            obtain ⟨ad218, e218, hx218_0⟩ := Kd.at_int HR0.out x5_1 p218 q218
            cases e218
            replace p218 := eq_true p218
            replace q218 := eq_true q218
            go_wp2
            go_ret
            exact ⟨by first | rfl | (simp; done) | (simp [*]; done), by repeat (first | exact Drawn0.refl _ | apply Drawn0.step)⟩
        · rw [if_neg c4] at H
          exact absurd H (by simp)
      · rw [if_neg c3] at H
        have c3b0 : decide (x5_1 < (l0.length : Int)) = false := decide_eq_false c3
        clear c3
        obtain rfl := Option.some.inj H
        go_wp2
        go_ret
        exact ⟨by first | rfl | (simp; done) | (simp [*]; done), by repeat (first | exact Drawn0.refl _ | apply Drawn0.step)⟩

/-! ### laws_FnExactCountDepths: function 3 -/
def laws_FnExactCountDepths.f (k : Nat) (a0 : Int) : Option (Bool) := (spec_CountDepths.f k a0).bind fun bt219 => ((impl_CountDepths.f k a0).bind fun bt223 => ((laws_eqIntS.f k bt223.1 bt219.1).bind fun t227 => (if t227 = true then (if (bt223.2 != bt219.2) = true then (none) else ((laws_markIntS.f k bt223.1 1).bind fun bt228 => ((laws_heldIntS.f k bt228.2 1).bind fun t230 => (if t230 < 0 then (none) else (if t230 = bt228.1 then ((impl_CountDepths.f k a0).bind fun bt231 => ((laws_eqIntS.f k bt231.1 bt219.1).bind fun t235 => (if t235 = true then (if (bt231.2 != bt219.2) = true then (none) else ((laws_heldIntS.f k bt228.2 1).bind fun t236 => (if t236 < 0 then (none) else (if t236 = bt228.1 then (some true) else (none))))) else (none)))) else (none)))))) else (none))))
theorem laws_FnExactCountDepths.mono : ∀ a0 k, LeO (laws_FnExactCountDepths.f k a0) (laws_FnExactCountDepths.f (k + 1) a0) := by
  intro a0 k
  unfold laws_FnExactCountDepths.f
  repeat' first
      | (with_reducible exact impl_CountDepths.mono _ _)
      | (with_reducible exact laws_eqIntS.mono _ _ _)
      | (with_reducible exact laws_heldIntS.mono _ _ _)
      | (with_reducible exact laws_markIntS.mono _ _ _)
      | (with_reducible exact spec_CountDepths.mono _ _)
      | (with_reducible exact LeO.refl _)
      | (with_reducible exact LeO.none _)
      | (with_reducible refine LeO.ite ?_ ?_)
      | (with_reducible refine LeO.bind ?_ (fun _ => ?_))
      | exact impl_CountDepths.mono _ _
      | exact laws_eqIntS.mono _ _ _
      | exact laws_heldIntS.mono _ _ _
      | exact laws_markIntS.mono _ _ _
      | exact spec_CountDepths.mono _ _
      | exact LeO.none _
      | refine LeO.ite ?_ ?_
      | refine LeO.bind ?_ (fun _ => ?_)
set_option maxHeartbeats 8000000 in
set_option maxRecDepth 100000 in
theorem laws_FnExactCountDepths.calls (k : Nat) (a0 : Int) (r : Bool) (w : World) (h : laws_FnExactCountDepths.f k a0 = some r) :
    Calls Try.prog 3 #[.int .i64 a0] w fun e w' => e = .returned (.bool r) ∧ Below w.heap.size w w' := by
  have HB := Aside0.mk (Below.refl w.heap.size w)
  have H : ((spec_CountDepths.f k a0).bind fun bt219 => ((impl_CountDepths.f k a0).bind fun bt223 => ((laws_eqIntS.f k bt223.1 bt219.1).bind fun t227 => (if t227 = true then (if (bt223.2 != bt219.2) = true then (none) else ((laws_markIntS.f k bt223.1 1).bind fun bt228 => ((laws_heldIntS.f k bt228.2 1).bind fun t230 => (if t230 < 0 then (none) else (if t230 = bt228.1 then ((impl_CountDepths.f k a0).bind fun bt231 => ((laws_eqIntS.f k bt231.1 bt219.1).bind fun t235 => (if t235 = true then (if (bt231.2 != bt219.2) = true then (none) else ((laws_heldIntS.f k bt228.2 1).bind fun t236 => (if t236 < 0 then (none) else (if t236 = bt228.1 then (some true) else (none))))) else (none)))) else (none)))))) else (none))))) = some r := h
  clear h
  replace H := Option.bind_eq_some_iff.mp H
  obtain ⟨⟨t219, t220⟩, A20, H⟩ := H
  replace H : ((impl_CountDepths.f k a0).bind fun bt223 => ((laws_eqIntS.f k bt223.1 t219).bind fun t227 => (if t227 = true then (if (bt223.2 != t220) = true then (none) else ((laws_markIntS.f k bt223.1 1).bind fun bt228 => ((laws_heldIntS.f k bt228.2 1).bind fun t230 => (if t230 < 0 then (none) else (if t230 = bt228.1 then ((impl_CountDepths.f k a0).bind fun bt231 => ((laws_eqIntS.f k bt231.1 t219).bind fun t235 => (if t235 = true then (if (bt231.2 != t220) = true then (none) else ((laws_heldIntS.f k bt228.2 1).bind fun t236 => (if t236 < 0 then (none) else (if t236 = bt228.1 then (some true) else (none))))) else (none)))) else (none)))))) else (none)))) = some r := H
  have A2 := Aside0.mk A20
  clear A20
  replace H := Option.bind_eq_some_iff.mp H
  obtain ⟨⟨t223, t224⟩, A30, H⟩ := H
  replace H : ((laws_eqIntS.f k t223 t219).bind fun t227 => (if t227 = true then (if (t224 != t220) = true then (none) else ((laws_markIntS.f k t223 1).bind fun bt228 => ((laws_heldIntS.f k bt228.2 1).bind fun t230 => (if t230 < 0 then (none) else (if t230 = bt228.1 then ((impl_CountDepths.f k a0).bind fun bt231 => ((laws_eqIntS.f k bt231.1 t219).bind fun t235 => (if t235 = true then (if (bt231.2 != t220) = true then (none) else ((laws_heldIntS.f k bt228.2 1).bind fun t236 => (if t236 < 0 then (none) else (if t236 = bt228.1 then (some true) else (none))))) else (none)))) else (none)))))) else (none))) = some r := H
  have A3 := Aside0.mk A30
  clear A30
  replace H := Option.bind_eq_some_iff.mp H
  obtain ⟨t227, A40, H⟩ := H
  replace H : (if t227 = true then (if (t224 != t220) = true then (none) else ((laws_markIntS.f k t223 1).bind fun bt228 => ((laws_heldIntS.f k bt228.2 1).bind fun t230 => (if t230 < 0 then (none) else (if t230 = bt228.1 then ((impl_CountDepths.f k a0).bind fun bt231 => ((laws_eqIntS.f k bt231.1 t219).bind fun t235 => (if t235 = true then (if (bt231.2 != t220) = true then (none) else ((laws_heldIntS.f k bt228.2 1).bind fun t236 => (if t236 < 0 then (none) else (if t236 = bt228.1 then (some true) else (none))))) else (none)))) else (none)))))) else (none)) = some r := H
  have A4 := Aside0.mk A40
  clear A40
  by_cases c5 : t227 = true
  · subst c5
    have H1 : (if (t224 != t220) = true then (none) else ((laws_markIntS.f k t223 1).bind fun bt228 => ((laws_heldIntS.f k bt228.2 1).bind fun t230 => (if t230 < 0 then (none) else (if t230 = bt228.1 then ((impl_CountDepths.f k a0).bind fun bt231 => ((laws_eqIntS.f k bt231.1 t219).bind fun t235 => (if t235 = true then (if (bt231.2 != t220) = true then (none) else ((laws_heldIntS.f k bt228.2 1).bind fun t236 => (if t236 < 0 then (none) else (if t236 = bt228.1 then (some true) else (none))))) else (none)))) else (none)))))) = some r := by rw [if_pos rfl] at H; exact H
    clear H
    have H := H1
    clear H1
    by_cases c6 : (t224 != t220) = true
    · rw [if_pos c6] at H
      exact absurd H (by simp)
    · rw [if_neg c6] at H
      have c6b0 : (t224 != t220) = false := by simpa using c6
      (try (have c6b1 : decide (t224 = t220) = true := by simpa using c6))
      (try (have c6b2 : (t224 == t220) = true := by simpa using c6))
      clear c6
      replace H := Option.bind_eq_some_iff.mp H
      obtain ⟨⟨t228, t229⟩, A70, H⟩ := H
      replace H : ((laws_heldIntS.f k t229 1).bind fun t230 => (if t230 < 0 then (none) else (if t230 = t228 then ((impl_CountDepths.f k a0).bind fun bt231 => ((laws_eqIntS.f k bt231.1 t219).bind fun t235 => (if t235 = true then (if (bt231.2 != t220) = true then (none) else ((laws_heldIntS.f k t229 1).bind fun t236 => (if t236 < 0 then (none) else (if t236 = t228 then (some true) else (none))))) else (none)))) else (none)))) = some r := H
      have A7 := Aside0.mk A70
      clear A70
      replace H := Option.bind_eq_some_iff.mp H
      obtain ⟨t230, A80, H⟩ := H
      replace H : (if t230 < 0 then (none) else (if t230 = t228 then ((impl_CountDepths.f k a0).bind fun bt231 => ((laws_eqIntS.f k bt231.1 t219).bind fun t235 => (if t235 = true then (if (bt231.2 != t220) = true then (none) else ((laws_heldIntS.f k t229 1).bind fun t236 => (if t236 < 0 then (none) else (if t236 = t228 then (some true) else (none))))) else (none)))) else (none))) = some r := H
      have A8 := Aside0.mk A80
      clear A80
      by_cases c9 : t230 < 0
      · rw [if_pos c9] at H
        exact absurd H (by simp)
      · rw [if_neg c9] at H
        have c9b0 : decide (t230 < 0) = false := decide_eq_false c9
        clear c9
        by_cases c10 : t230 = t228
        · rw [if_pos c10] at H
          have c10b0 : (t230 == t228) = true := beq_iff_eq.mpr c10
          have c10b1 : (t230 != t228) = false := bne_eq_false_iff_eq.mpr c10
          clear c10
          replace H := Option.bind_eq_some_iff.mp H
          obtain ⟨⟨t231, t232⟩, A110, H⟩ := H
          replace H : ((laws_eqIntS.f k t231 t219).bind fun t235 => (if t235 = true then (if (t232 != t220) = true then (none) else ((laws_heldIntS.f k t229 1).bind fun t236 => (if t236 < 0 then (none) else (if t236 = t228 then (some true) else (none))))) else (none))) = some r := H
          have A11 := Aside0.mk A110
          clear A110
          replace H := Option.bind_eq_some_iff.mp H
          obtain ⟨t235, A120, H⟩ := H
          replace H : (if t235 = true then (if (t232 != t220) = true then (none) else ((laws_heldIntS.f k t229 1).bind fun t236 => (if t236 < 0 then (none) else (if t236 = t228 then (some true) else (none))))) else (none)) = some r := H
          have A12 := Aside0.mk A120
          clear A120
          by_cases c13 : t235 = true
          · subst c13
            have H1 : (if (t232 != t220) = true then (none) else ((laws_heldIntS.f k t229 1).bind fun t236 => (if t236 < 0 then (none) else (if t236 = t228 then (some true) else (none))))) = some r := by rw [if_pos rfl] at H; exact H
            clear H
            have H := H1
            clear H1
            by_cases c14 : (t232 != t220) = true
            · rw [if_pos c14] at H
              exact absurd H (by simp)
            · rw [if_neg c14] at H
              have c14b0 : (t232 != t220) = false := by simpa using c14
              (try (have c14b1 : decide (t232 = t220) = true := by simpa using c14))
              (try (have c14b2 : (t232 == t220) = true := by simpa using c14))
              clear c14
              replace H := Option.bind_eq_some_iff.mp H
              obtain ⟨t236, A150, H⟩ := H
              replace H : (if t236 < 0 then (none) else (if t236 = t228 then (some true) else (none))) = some r := H
              have A15 := Aside0.mk A150
              clear A150
              by_cases c16 : t236 < 0
              · rw [if_pos c16] at H
                exact absurd H (by simp)
              · rw [if_neg c16] at H
                have c16b0 : decide (t236 < 0) = false := decide_eq_false c16
                clear c16
                by_cases c17 : t236 = t228
                · rw [if_pos c17] at H
                  have c17b0 : (t236 == t228) = true := beq_iff_eq.mpr c17
                  have c17b1 : (t236 != t228) = false := bne_eq_false_iff_eq.mpr c17
                  clear c17
                  obtain rfl := Option.some.inj H
                  go_enter Try.func3, Try.ntmps3
                  go_wp2_with (first | ((with_reducible refine gate_callee (f := 6) rfl ?_); refine goesL_ (some 13) rfl rfl Try.func6 (by kernel_rfl) rfl #[.int .i64 a0] rfl (by (try simp only [List.map_toArray, List.map_cons, List.map_nil]); first | done | rfl | (simp only [List.length_drop, List.length_take]; rfl)) ?_; (with_reducible refine (spec_CountDepths.calls k a0 t219 t220 _ A2.out).mono ?_); rintro e w18 ⟨v221, rfl, ho0, hb⟩; refine ⟨_, rfl, ?_⟩; have n0_ := Aside0.mk (Kd.R_lower ho0 (below_size (by repeat (first | (with_reducible first | exact HB.out | apply below_alloc | apply pw_below_drewN | apply below_drew1) | exact HB.out)))); have n1_ := Aside0.mk (below_step (by repeat (first | (with_reducible first | exact HB.out | apply below_alloc | apply pw_below_drewN | apply below_drew1) | exact HB.out)) hb); clear HB; have HO222 := n0_; have HB := n1_; clear n0_ n1_; (try clear hb); (try clear hb2); (try clear hk); (try clear hi); (try clear ho0)) | ((with_reducible refine gate_callee (f := 7) rfl ?_); refine goesL_ (some 18) rfl rfl Try.func7 (by kernel_rfl) rfl #[.int .i64 a0] rfl (by (try simp only [List.map_toArray, List.map_cons, List.map_nil]); first | done | rfl | (simp only [List.length_drop, List.length_take]; rfl)) ?_; (with_reducible refine (impl_CountDepths.calls k a0 t223 t224 _ A3.out).mono ?_); rintro e w19 ⟨v225, rfl, ho0, hb⟩; refine ⟨_, rfl, ?_⟩; have n0_ := Aside0.mk (Kd.R_elder' (by (with_reducible repeat (first | apply Kd.R_alloc | apply Kd.R_drewN | apply Kd.R_drew)); exact HO222.out) (Kd.R_base ho0) hb); have n1_ := Aside0.mk (Kd.R_lower (Kd.R_new' ho0 (Kd.R_lt (by (with_reducible repeat (first | apply Kd.R_alloc | apply Kd.R_drewN | apply Kd.R_drew)); exact HO222.out))) (below_size (by repeat (first | (with_reducible first | exact HB.out | apply below_alloc | apply pw_below_drewN | apply below_drew1) | exact HB.out)))); have n2_ := Aside0.mk (below_step (by repeat (first | (with_reducible first | exact HB.out | apply below_alloc | apply pw_below_drewN | apply below_drew1) | exact HB.out)) hb); clear HO222; clear HB; have HO222 := n0_; have HO226 := n1_; have HB := n2_; clear n0_ n1_ n2_; (try clear hb); (try clear hb2); (try clear hk); (try clear hi); (try clear ho0); obtain ⟨Ao20, co20, eo20⟩ := Kd.R_slice HO226.out; subst eo20; obtain ⟨Ao21, co21, eo21⟩ := Kd.R_slice HO222.out; subst eo21) | ((with_reducible refine gate_callee (f := 8) rfl ?_); refine goesL_ (some 23) rfl rfl Try.func8 (by kernel_rfl) rfl #[.slice Ao20 t223.length co20, .slice Ao21 t219.length co21] rfl (by (try simp only [List.map_toArray, List.map_cons, List.map_nil]); first | done | rfl | (simp only [List.length_drop, List.length_take]; rfl)) ?_; (with_reducible refine (laws_eqIntS.calls k _ _ t223 _ _ t219 true _ ?side1 ?side2 ?side3 ?side4 A4.out).mono ?_); (case side1 => repeat (first | exact (Kd.R_reads' HO226.out).2.2 | (with_reducible refine Kd.C_alloc ?_ _) | (with_reducible refine Kd.C_drewN ?_ _) | (with_reducible refine Kd.C_drew ?_))); (case side2 => exact (Kd.R_reads' HO226.out).2.1); (case side3 => repeat (first | exact (Kd.R_reads' HO222.out).2.2 | (with_reducible refine Kd.C_alloc ?_ _) | (with_reducible refine Kd.C_drewN ?_ _) | (with_reducible refine Kd.C_drew ?_))); (case side4 => exact (Kd.R_reads' HO222.out).2.1); rintro e w' ⟨rfl, ⟨nd, rfl⟩⟩; refine ⟨_, rfl, ?_⟩) | ((with_reducible refine gate_callee (f := 9) rfl ?_); refine goesL_ (some 32) rfl rfl Try.func9 (by kernel_rfl) rfl #[.slice Ao20 t223.length co20, .int .i64 1] rfl (by (try simp only [List.map_toArray, List.map_cons, List.map_nil]); first | done | rfl | (simp only [List.length_drop, List.length_take]; rfl)) ?_; (with_reducible refine (laws_markIntS.calls k (fun k_ => some k_ = (.slice Ao20 t223.length co20 : Value).ownBlock) (.slice Ao20 t223.length co20) t223 1 t228 t229 w _ ?side1 ?side2 A7.out).mono ?_); (case side1 => repeat (first | (with_reducible first | exact HB.out | apply below_alloc | apply pw_below_drewN | apply below_drew1) | exact HB.out)); (case side2 => exact Kd.R_tight rfl HO226.out); rintro e w22 ⟨rfl, hy0, hb, hkp⟩; refine ⟨_, rfl, ?_⟩; have n0_ := Aside0.mk (Kd.R_mono (ok' := fun k_ => some k_ ≠ (.slice Ao20 t223.length co20 : Value).ownBlock) (Kd.R_keptB (HO222.out) hkp (fun k_ hk_ hs_ => absurd hs_ (by revert hk_; simp only [and_imp, true_implies]; intros; assumption))) (fun k_ hk_ => by revert hk_; simp only [and_imp, true_implies]; intros; (repeat' apply And.intro) <;> assumption)); have n1_ := Aside0.mk (Kd.R_reok rfl hy0 (fun k_ e_ => HO226.out.1 k_ e_)); have n2_ := Aside0.mk (hb); clear HO222; clear HO226; clear HB; have HO222 := n0_; have HO226 := n1_; have HB := n2_; clear n0_ n1_ n2_; (try clear hb); (try clear hkp); (try clear hy0)) | ((with_reducible refine gate_callee (f := 10) rfl ?_); refine goesL_ (some 35) rfl rfl Try.func10 (by kernel_rfl) rfl #[.slice Ao20 t229.length co20, .int .i64 1] rfl (by (try simp only [List.map_toArray, List.map_cons, List.map_nil]); first | done | (rw [show t229.length = t223.length from (Kd.R_reads' HO226.out).1.symm] <;> rfl) | rfl | (simp only [List.length_drop, List.length_take]; rfl)) ?_; (with_reducible refine (laws_heldIntS.calls k _ _ t229 1 t230 _ ?side1 ?side2 A8.out).mono ?_); (case side1 => repeat (first | exact (Kd.R_reads' HO226.out).2.2 | (with_reducible refine Kd.C_alloc ?_ _) | (with_reducible refine Kd.C_drewN ?_ _) | (with_reducible refine Kd.C_drew ?_))); (case side2 => rw [show t229.length = t223.length from (Kd.R_reads' HO226.out).1.symm]; exact (Kd.R_reads' HO226.out).2.1); rintro e w' ⟨rfl, ⟨nd, rfl⟩⟩; refine ⟨_, rfl, ?_⟩) | ((with_reducible refine gate_callee (f := 7) rfl ?_); refine goesL_ (some 43) rfl rfl Try.func7 (by kernel_rfl) rfl #[.int .i64 a0] rfl (by (try simp only [List.map_toArray, List.map_cons, List.map_nil]); first | done | rfl | (simp only [List.length_drop, List.length_take]; rfl)) ?_; (with_reducible refine (impl_CountDepths.calls k a0 t231 t232 _ A11.out).mono ?_); rintro e w23 ⟨v233, rfl, ho0, hb⟩; refine ⟨_, rfl, ?_⟩; have n0_ := Aside0.mk (Kd.R_elder' (by (with_reducible repeat (first | apply Kd.R_alloc | apply Kd.R_drewN | apply Kd.R_drew)); exact HO222.out) (Kd.R_base ho0) hb); have n1_ := Aside0.mk (Kd.R_elder' (by (with_reducible repeat (first | apply Kd.R_alloc | apply Kd.R_drewN | apply Kd.R_drew)); exact HO226.out) (Kd.R_base ho0) hb); have n2_ := Aside0.mk (Kd.R_lower (Kd.R_new' (Kd.R_new' ho0 (Kd.R_lt (by (with_reducible repeat (first | apply Kd.R_alloc | apply Kd.R_drewN | apply Kd.R_drew)); exact HO222.out))) (Kd.R_lt (by (with_reducible repeat (first | apply Kd.R_alloc | apply Kd.R_drewN | apply Kd.R_drew)); exact HO226.out))) (below_size (by repeat (first | (with_reducible first | exact HB.out | apply below_alloc | apply pw_below_drewN | apply below_drew1) | exact HB.out)))); have n3_ := Aside0.mk (below_step (by repeat (first | (with_reducible first | exact HB.out | apply below_alloc | apply pw_below_drewN | apply below_drew1) | exact HB.out)) hb); clear HO222; clear HO226; clear HB; have HO222 := n0_; have HO226 := n1_; have HO234 := n2_; have HB := n3_; clear n0_ n1_ n2_ n3_; (try clear hb); (try clear hb2); (try clear hk); (try clear hi); (try clear ho0); obtain ⟨Ao24, co24, eo24⟩ := Kd.R_slice HO234.out; subst eo24) | ((with_reducible refine gate_callee (f := 8) rfl ?_); refine goesL_ (some 48) rfl rfl Try.func8 (by kernel_rfl) rfl #[.slice Ao24 t231.length co24, .slice Ao21 t219.length co21] rfl (by (try simp only [List.map_toArray, List.map_cons, List.map_nil]); first | done | rfl | (simp only [List.length_drop, List.length_take]; rfl)) ?_; (with_reducible refine (laws_eqIntS.calls k _ _ t231 _ _ t219 true _ ?side1 ?side2 ?side3 ?side4 A12.out).mono ?_); (case side1 => repeat (first | exact (Kd.R_reads' HO234.out).2.2 | (with_reducible refine Kd.C_alloc ?_ _) | (with_reducible refine Kd.C_drewN ?_ _) | (with_reducible refine Kd.C_drew ?_))); (case side2 => exact (Kd.R_reads' HO234.out).2.1); (case side3 => repeat (first | exact (Kd.R_reads' HO222.out).2.2 | (with_reducible refine Kd.C_alloc ?_ _) | (with_reducible refine Kd.C_drewN ?_ _) | (with_reducible refine Kd.C_drew ?_))); (case side4 => exact (Kd.R_reads' HO222.out).2.1); rintro e w' ⟨rfl, ⟨nd, rfl⟩⟩; refine ⟨_, rfl, ?_⟩) | ((with_reducible refine gate_callee (f := 10) rfl ?_); refine goesL_ (some 57) rfl rfl Try.func10 (by kernel_rfl) rfl #[.slice Ao20 t229.length co20, .int .i64 1] rfl (by (try simp only [List.map_toArray, List.map_cons, List.map_nil]); first | done | (rw [show t229.length = t223.length from (Kd.R_reads' HO226.out).1.symm] <;> rfl) | rfl | (simp only [List.length_drop, List.length_take]; rfl)) ?_; (with_reducible refine (laws_heldIntS.calls k _ _ t229 1 t236 _ ?side1 ?side2 A15.out).mono ?_); (case side1 => repeat (first | exact (Kd.R_reads' HO226.out).2.2 | (with_reducible refine Kd.C_alloc ?_ _) | (with_reducible refine Kd.C_drewN ?_ _) | (with_reducible refine Kd.C_drew ?_))); (case side2 => rw [show t229.length = t223.length from (Kd.R_reads' HO226.out).1.symm]; exact (Kd.R_reads' HO226.out).2.1); rintro e w' ⟨rfl, ⟨nd, rfl⟩⟩; refine ⟨_, rfl, ?_⟩))
                  go_ret
                  exact ⟨by first | rfl | (simp [errW_none, errW_some] <;> rfl) | (simp [*, errW_none, errW_some] <;> rfl), by repeat (first | (with_reducible first | exact HB.out | apply below_alloc | apply pw_below_drewN | apply below_drew1) | exact HB.out)⟩
                · rw [if_neg c17] at H
                  exact absurd H (by simp)
          · replace c13 := Bool.eq_false_iff.mpr c13
            subst c13
            have H1 : (none) = some r := by rw [if_neg (show ¬ (false = true) by decide)] at H; exact H
            clear H
            have H := H1
            clear H1
            exact absurd H (by simp)
        · rw [if_neg c10] at H
          exact absurd H (by simp)
  · replace c5 := Bool.eq_false_iff.mpr c5
    subst c5
    have H1 : (none) = some r := by rw [if_neg (show ¬ (false = true) by decide)] at H; exact H
    clear H
    have H := H1
    clear H1
    exact absurd H (by simp)

/-- THE ONE PURE STATEMENT of laws_FnExactCountDepths: yours. -/
def laws_FnExactCountDepths.Pure : Prop := ∀ (a0 : Int), (Lit.int .i64 a0).wf = true → ∃ k, laws_FnExactCountDepths.f k a0 = some true
theorem laws_FnExactCountDepths.walk (P : laws_FnExactCountDepths.Pure) (a0 : Int) (w : World) (w0 : (Lit.int .i64 a0).wf = true) :
    Calls Try.prog 3 #[.int .i64 a0] w fun e w' => e = .returned (.bool true) ∧ Below w.heap.size w w' := by
  obtain ⟨k, h⟩ := P a0 w0
  refine (laws_FnExactCountDepths.calls k a0 true w h).mono ?_
  rintro e w' ⟨rfl, hd⟩
  exact ⟨rfl, hd⟩

end Go.Proofs.Ytojbmihkdlkkcaa.B
