/- The walks of functions of the given program and of its reference: each call of the machine returns what the plain Lean function of the same name says. Conditions: those in each statement. (Written by this session's program over the kit's print.) -/
import Derived.Test.YthpdhoplddlieaaB0
import Derived.Test.YthpdhoplddlieaaB2
import Derived.Test.YthpdhoplddlieaaB7
import Derived.Test.YthpdhoplddlieaaB20
import Derived.Test.YthpdhoplddlieaaB22
import Derived.Test.YthpdhoplddlieaaB27
namespace Go.Proofs.Ythpdhoplddlieaa.B
open Go.RowKit Go.Proofs.YthpdhoplddlieaaW.PrintWords Go.Proofs.YthpdhoplddlieaaW.PrintLast Go.Proofs.YthpdhoplddlieaaW.PrintMore
attribute [local go_sem] max2_int min2_int max_two min_two max_three min_three max_four min_four   -- for this text's walks alone
set_option linter.unusedVariables false
set_option linter.unusedSimpArgs false

/-! ### spec_lsLess: function 93 -/
mutual
def spec_lsLess.l0 : Nat → List Int → List Int → Int → Option (Bool)
  | 0, _, _, _ => none
  | k + 1, x0, x1, x5 => if x5 < (x0.length : Int) then (spec_lsLess.j1 k x0 x1 x5 (decide (x5 < (x1.length : Int)))) else (spec_lsLess.j1 k x0 x1 x5 false)
def spec_lsLess.j1 : Nat → List Int → List Int → Int → Bool → Option (Bool)
  | 0, _, _, _, _ => none
  | k + 1, x0, x1, x5, x15 => if x15 = true then (if 0 ≤ x5 then (if x5 < (x0.length : Int) then (if x5 < (x1.length : Int) then (if (rd x0 x5) = (rd x1 x5) then (spec_lsLess.l0 k x0 x1 (wrap64 (x5 + 1))) else (some (decide ((rd x0 x5) < (rd x1 x5))))) else (none)) else (none)) else (none)) else (some (decide ((x0.length : Int) < (x1.length : Int))))
end
def spec_lsLess.f (k : Nat) (l0 : List Int) (l1 : List Int) : Option (Bool) := spec_lsLess.l0 k l0 l1 0
theorem spec_lsLess.mono_l : ∀ k, (∀ y0 y1 y2, LeO (spec_lsLess.l0 k y0 y1 y2) (spec_lsLess.l0 (k + 1) y0 y1 y2)) ∧ (∀ y0 y1 y2 y3, LeO (spec_lsLess.j1 k y0 y1 y2 y3) (spec_lsLess.j1 (k + 1) y0 y1 y2 y3))
  | 0 => ⟨fun _ _ _ r h => by simp [spec_lsLess.l0] at h, fun _ _ _ _ r h => by simp [spec_lsLess.j1] at h⟩
  | k + 1 => by
    obtain ⟨ih0, ih1⟩ := spec_lsLess.mono_l k
    refine ⟨?_, ?_⟩
    · intro y0 y1 y2
      unfold spec_lsLess.l0
      repeat' first
      | (with_reducible exact ih0 _ _ _)
      | (with_reducible exact ih1 _ _ _ _)
      | (with_reducible exact LeO.refl _)
      | (with_reducible exact LeO.none _)
      | (with_reducible refine LeO.ite ?_ ?_)
      | (with_reducible refine LeO.bind ?_ (fun _ => ?_))
      | exact ih0 _ _ _
      | exact ih1 _ _ _ _
      | exact LeO.none _
      | refine LeO.ite ?_ ?_
      | refine LeO.bind ?_ (fun _ => ?_)
    · intro y0 y1 y2 y3
      unfold spec_lsLess.j1
      repeat' first
      | (with_reducible exact ih0 _ _ _)
      | (with_reducible exact ih1 _ _ _ _)
      | (with_reducible exact LeO.refl _)
      | (with_reducible exact LeO.none _)
      | (with_reducible refine LeO.ite ?_ ?_)
      | (with_reducible refine LeO.bind ?_ (fun _ => ?_))
      | exact ih0 _ _ _
      | exact ih1 _ _ _ _
      | exact LeO.none _
      | refine LeO.ite ?_ ?_
      | refine LeO.bind ?_ (fun _ => ?_)
theorem spec_lsLess.mono : ∀ a0 a1 k, LeO (spec_lsLess.f k a0 a1) (spec_lsLess.f (k + 1) a0 a1) := by
  intro a0 a1 k
  obtain ⟨ih0, ih1⟩ := spec_lsLess.mono_l k
  unfold spec_lsLess.f
  repeat' first
      | (with_reducible exact ih0 _ _ _)
      | (with_reducible exact ih1 _ _ _ _)
      | (with_reducible exact LeO.refl _)
      | (with_reducible exact LeO.none _)
      | (with_reducible refine LeO.ite ?_ ?_)
      | (with_reducible refine LeO.bind ?_ (fun _ => ?_))
      | exact ih0 _ _ _
      | exact ih1 _ _ _ _
      | exact LeO.none _
      | refine LeO.ite ?_ ?_
      | refine LeO.bind ?_ (fun _ => ?_)
set_option maxHeartbeats 8000000 in
set_option maxRecDepth 100000 in
theorem spec_lsLess.calls (k : Nat) (A0 : Option Addr) (c0 : Nat) (l0 : List Int) (A1 : Option Addr) (c1 : Nat) (l1 : List Int) (r : Bool) (w : World) (hr0 : Kd.C (Kd.int .i64) w A0 l0.length l0) (hc0 : l0.length ≤ c0) (hr1 : Kd.C (Kd.int .i64) w A1 l1.length l1) (hc1 : l1.length ≤ c1) (h : spec_lsLess.f k l0 l1 = some r) :
    Calls Try.prog 93 #[.slice A0 l0.length c0, .slice A1 l1.length c1] w fun e w' => e = .returned (.bool r) ∧ Drawn0 w w' := by
  have HR0 := Aside0.mk hr0
  have HC0 := Aside0.mk hc0
  clear hr0 hc0
  have HR1 := Aside0.mk hr1
  have HC1 := Aside0.mk hc1
  clear hr1 hc1
  have H : (spec_lsLess.l0 k l0 l1 0) = some r := h
  clear h
  have H' := Aside0.mk H
  clear H
  go_enter Try.func93, Try.ntmps93
  go_wp2
  repeat (go_quiet (fail); try go_wp2)
  go_loopg [5] k (fun kq v5 w' => ∃ (x5_1 : Int), v5 = .int .i64 x5_1 ∧ Aside0 (spec_lsLess.l0 kq l0 l1 x5_1 = some r) ∧ Aside0 (kq ≤ k) ∧ Drawn0 w w')
  case atStart => exact ⟨(0), (by first | rfl | (simp; done) | (simp [*]; done)), H', ⟨Nat.le_refl _⟩, by repeat (first | exact Drawn0.refl _ | apply Drawn0.step)⟩
  case round =>
    clear H'
    try clear c1
    try clear p2
    obtain ⟨x5_1, rfl, HA, HK1, ⟨m1, rfl⟩⟩ := hrel
    cases gk with
    | zero => exact absurd HA.out (by simp [spec_lsLess.l0])
    | succ k1 =>
      have H := HA.out
      clear HA
      simp only [spec_lsLess.l0] at H
      have HC3 := Aside0.mk H
      clear H
      go_upto_region 2 with (fail)
      repeat (go_quiet (fail); go_upto_region 2 with (fail))
      go_cut [15] (fun v15 wc => ∃ (kq : Nat) (x15_2 : Bool), v15 = .bool x15_2 ∧ Aside0 (spec_lsLess.j1 kq l0 l1 x5_1 x15_2 = some r) ∧ Aside0 (kq ≤ k1) ∧ Drawn0 w wc)
      case first =>
        have H := HC3.out
        clear HC3
        by_cases c4 : x5_1 < (l0.length : Int)
        · rw [if_pos c4] at H
          have c4b0 : decide (x5_1 < (l0.length : Int)) = true := decide_eq_true c4
          clear c4
          (first | rw [c4b0] | (simp only [i64_w, i32_w]; rw [c4b0]) | skip)
          have H' := Aside0.mk H
          clear H
          go_wp2
          repeat (go_quiet (fail); try go_wp2)
          go_meet
          case rel => exact ⟨_, (decide (x5_1 < (l1.length : Int))), (by first | rfl | (simp; done) | (simp [*]; done)), H', ⟨by have := HK1.out; first | omega | exact Nat.le_refl _⟩, by repeat (first | exact Drawn0.refl _ | apply Drawn0.step)⟩
        · rw [if_neg c4] at H
          have c4b0 : decide (x5_1 < (l0.length : Int)) = false := decide_eq_false c4
          clear c4
          (first | rw [c4b0] | (simp only [i64_w, i32_w]; rw [c4b0]) | skip)
          have H' := Aside0.mk H
          clear H
          go_wp2
          repeat (go_quiet (fail); try go_wp2)
          go_meet
          case rel => exact ⟨_, (false), (by first | rfl | (simp; done) | (simp [*]; done)), H', ⟨by have := HK1.out; first | omega | exact Nat.le_refl _⟩, by repeat (first | exact Drawn0.refl _ | apply Drawn0.step)⟩
      case rest =>
        clear HC3
        try clear c1
        try clear p2
        try clear c4
        try clear c4b0
        try clear p2
        obtain ⟨kq, x15_2, rfl, HA, HJ2, ⟨mc2, rfl⟩⟩ := hcut
        cases kq with
        | zero => exact absurd HA.out (by simp [spec_lsLess.j1])
        | succ kj2 =>
          have H := HA.out
          clear HA
          simp only [spec_lsLess.j1] at H
          by_cases c5 : x15_2 = true
          · subst c5
            have H1 : (if 0 ≤ x5_1 then (if x5_1 < (l0.length : Int) then (if x5_1 < (l1.length : Int) then (if (rd l0 x5_1) = (rd l1 x5_1) then (spec_lsLess.l0 kj2 l0 l1 (wrap64 (x5_1 + 1))) else (some (decide ((rd l0 x5_1) < (rd l1 x5_1))))) else (none)) else (none)) else (none)) = some r := by rw [if_pos rfl] at H; exact H
            clear H
            have H := H1
            clear H1
            by_cases c6 : 0 ≤ x5_1
            · rw [if_pos c6] at H
              have c6b0 : decide (0 ≤ x5_1) = true := decide_eq_true c6
              clear c6
              by_cases c7 : x5_1 < (l0.length : Int)
              · rw [if_pos c7] at H
                have c7b0 : decide (x5_1 < (l0.length : Int)) = true := decide_eq_true c7
                clear c7
                by_cases c8 : x5_1 < (l1.length : Int)
                · rw [if_pos c8] at H
                  have c8b0 : decide (x5_1 < (l1.length : Int)) = true := decide_eq_true c8
                  clear c8
                  by_cases c9 : (rd l0 x5_1) = (rd l1 x5_1)
                  · rw [if_pos c9] at H
                    have c9b0 : ((rd l0 x5_1) == (rd l1 x5_1)) = true := beq_iff_eq.mpr c9
                    have c9b1 : ((rd l0 x5_1) != (rd l1 x5_1)) = false := bne_eq_false_iff_eq.mpr c9
                    clear c9
                    have H' := Aside0.mk H
                    clear H
                    have p697 : 0 ≤ (x5_1 : Int) := of_decide_eq_true (by first | (with_reducible assumption) | assumption)
                    have q697 : x5_1 < (l0.length : Int) := of_decide_eq_true (by first | (with_reducible assumption) | assumption)
                    obtain ⟨ad697, e697, hx697_0⟩ := Kd.at_int HR0.out x5_1 p697 q697
                    cases e697
                    replace p697 := eq_true p697
                    replace q697 := eq_true q697
                    have p698 : 0 ≤ (x5_1 : Int) := of_decide_eq_true (by first | (with_reducible assumption) | assumption)
                    have q698 : x5_1 < (l1.length : Int) := of_decide_eq_true (by first | (with_reducible assumption) | assumption)
                    obtain ⟨ad698, e698, hx698_0⟩ := Kd.at_int HR1.out x5_1 p698 q698
                    cases e698
                    replace p698 := eq_true p698
                    replace q698 := eq_true q698
                    go_wp2
                    repeat (go_quiet (fail); try go_wp2)
                    go_roundg kj2
                    case measure => have := HK1.out; have := HJ2.out; omega
                    case rel => exact ⟨(wrap64 (x5_1 + 1)), (by first | rfl | (simp; done) | (simp [*]; done)), H', ⟨by have := HK1.out; have := HJ2.out; omega⟩, by repeat (first | exact Drawn0.refl _ | apply Drawn0.step)⟩
                  · rw [if_neg c9] at H
                    have c9b0 : ((rd l0 x5_1) == (rd l1 x5_1)) = false := beq_eq_false_iff_ne.mpr c9
                    have c9b1 : ((rd l0 x5_1) != (rd l1 x5_1)) = true := bne_iff_ne.mpr c9
                    obtain rfl := Option.some.inj H
                    have p697 : 0 ≤ (x5_1 : Int) := of_decide_eq_true (by first | (with_reducible assumption) | assumption)
                    have q697 : x5_1 < (l0.length : Int) := of_decide_eq_true (by first | (with_reducible assumption) | assumption)
                    obtain ⟨ad697, e697, hx697_0⟩ := Kd.at_int HR0.out x5_1 p697 q697
                    cases e697
                    replace p697 := eq_true p697
                    replace q697 := eq_true q697
                    have p698 : 0 ≤ (x5_1 : Int) := of_decide_eq_true (by first | (with_reducible assumption) | assumption)
                    have q698 : x5_1 < (l1.length : Int) := of_decide_eq_true (by first | (with_reducible assumption) | assumption)
                    obtain ⟨ad698, e698, hx698_0⟩ := Kd.at_int HR1.out x5_1 p698 q698
                    cases e698
                    replace p698 := eq_true p698
                    replace q698 := eq_true q698
                    have p699 : 0 ≤ (x5_1 : Int) := of_decide_eq_true (by first | (with_reducible assumption) | assumption)
                    have q699 : x5_1 < (l0.length : Int) := of_decide_eq_true (by first | (with_reducible assumption) | assumption)
                    obtain ⟨ad699, e699, hx699_0⟩ := Kd.at_int HR0.out x5_1 p699 q699
                    obtain rfl : ad697 = ad699 := (by injection e699)
                    replace p699 := eq_true p699
                    replace q699 := eq_true q699
                    have p700 : 0 ≤ (x5_1 : Int) := of_decide_eq_true (by first | (with_reducible assumption) | assumption)
                    have q700 : x5_1 < (l1.length : Int) := of_decide_eq_true (by first | (with_reducible assumption) | assumption)
                    obtain ⟨ad700, e700, hx700_0⟩ := Kd.at_int HR1.out x5_1 p700 q700
                    obtain rfl : ad698 = ad700 := (by injection e700)
                    replace p700 := eq_true p700
                    replace q700 := eq_true q700
                    go_wp2
                    repeat (go_quiet (fail); try go_wp2)
                    go_ret
                    exact ⟨by first | rfl | (simp; done) | (simp [*]; done), by repeat (first | exact Drawn0.refl _ | apply Drawn0.step)⟩
                · rw [if_neg c8] at H
                  exact absurd H (by simp)
              · rw [if_neg c7] at H
                exact absurd H (by simp)
            · rw [if_neg c6] at H
              exact absurd H (by simp)
          · replace c5 := Bool.eq_false_iff.mpr c5
            subst c5
            have H1 : (some (decide ((l0.length : Int) < (l1.length : Int)))) = some r := by rw [if_neg (show ¬ (false = true) by decide)] at H; exact H
            clear H
            have H := H1
            clear H1
            obtain rfl := Option.some.inj H
            go_wp2
            repeat (go_quiet (fail); try go_wp2)
            go_ret
            exact ⟨by first | rfl | (simp; done) | (simp [*]; done), by repeat (first | exact Drawn0.refl _ | apply Drawn0.step)⟩

/-! ### spec_lsSame: function 75 -/
def spec_lsSame.f (k : Nat) (l0 : List Int) (l1 : List Int) : Option (Bool) := (spec_lsLess.f k l0 l1).bind fun t701 => (if t701 = true then (some false) else ((spec_lsLess.f k l1 l0).bind fun t702 => (some (!t702))))
theorem spec_lsSame.mono : ∀ a0 a1 k, LeO (spec_lsSame.f k a0 a1) (spec_lsSame.f (k + 1) a0 a1) := by
  intro a0 a1 k
  unfold spec_lsSame.f
  repeat' first
      | (with_reducible exact spec_lsLess.mono _ _ _)
      | (with_reducible exact LeO.refl _)
      | (with_reducible exact LeO.none _)
      | (with_reducible refine LeO.ite ?_ ?_)
      | (with_reducible refine LeO.bind ?_ (fun _ => ?_))
      | exact spec_lsLess.mono _ _ _
      | exact LeO.none _
      | refine LeO.ite ?_ ?_
      | refine LeO.bind ?_ (fun _ => ?_)
set_option maxHeartbeats 8000000 in
set_option maxRecDepth 100000 in
theorem spec_lsSame.calls (k : Nat) (A0 : Option Addr) (c0 : Nat) (l0 : List Int) (A1 : Option Addr) (c1 : Nat) (l1 : List Int) (r : Bool) (w : World) (hr0 : Kd.C (Kd.int .i64) w A0 l0.length l0) (hc0 : l0.length ≤ c0) (hr1 : Kd.C (Kd.int .i64) w A1 l1.length l1) (hc1 : l1.length ≤ c1) (h : spec_lsSame.f k l0 l1 = some r) :
    Calls Try.prog 75 #[.slice A0 l0.length c0, .slice A1 l1.length c1] w fun e w' => e = .returned (.bool r) ∧ Drawn0 w w' := by
  have HR0 := Aside0.mk hr0
  have HC0 := Aside0.mk hc0
  clear hr0 hc0
  have HR1 := Aside0.mk hr1
  have HC1 := Aside0.mk hc1
  clear hr1 hc1
  have H : ((spec_lsLess.f k l0 l1).bind fun t701 => (if t701 = true then (some false) else ((spec_lsLess.f k l1 l0).bind fun t702 => (some (!t702))))) = some r := h
  clear h
  replace H := Option.bind_eq_some_iff.mp H
  obtain ⟨t701, A30, H⟩ := H
  replace H : (if t701 = true then (some false) else ((spec_lsLess.f k l1 l0).bind fun t702 => (some (!t702)))) = some r := H
  have A3 := Aside0.mk A30
  clear A30
  by_cases c4 : t701 = true
  · subst c4
    have H1 : (some false) = some r := by rw [if_pos rfl] at H; exact H
    clear H
    have H := H1
    clear H1
    obtain rfl := Option.some.inj H
    go_enter Try.func75, Try.ntmps75
    go_wp2_with (first | ((with_reducible refine gate_callee (f := 93) rfl ?_); refine goesL_ (some 7) rfl rfl Try.func93 (by kernel_rfl) rfl #[.slice A0 l0.length c0, .slice A1 l1.length c1] rfl (by (try simp only [List.map_toArray, List.map_cons, List.map_nil]); first | done | rfl | (simp only [List.length_drop, List.length_take]; rfl)) ?_; (with_reducible refine (spec_lsLess.calls k _ _ l0 _ _ l1 true _ ?side1 ?side2 ?side3 ?side4 A3.out).mono ?_); (case side1 => repeat (first | exact HR0.out | (with_reducible refine Kd.C_alloc ?_ _) | (with_reducible refine Kd.C_drewN ?_ _) | (with_reducible refine Kd.C_drew ?_))); (case side2 => exact HC0.out); (case side3 => repeat (first | exact HR1.out | (with_reducible refine Kd.C_alloc ?_ _) | (with_reducible refine Kd.C_drewN ?_ _) | (with_reducible refine Kd.C_drew ?_))); (case side4 => exact HC1.out); rintro e w' ⟨rfl, ⟨nd, rfl⟩⟩; refine ⟨_, rfl, ?_⟩))
    go_ret
    exact ⟨by first | rfl | (simp; done) | (simp [*]; done), by repeat (first | exact Drawn0.refl _ | apply Drawn0.step)⟩
  · replace c4 := Bool.eq_false_iff.mpr c4
    subst c4
    have H1 : ((spec_lsLess.f k l1 l0).bind fun t702 => (some (!t702))) = some r := by rw [if_neg (show ¬ (false = true) by decide)] at H; exact H
    clear H
    have H := H1
    clear H1
    replace H := Option.bind_eq_some_iff.mp H
    obtain ⟨t702, A50, H⟩ := H
    replace H : (some (!t702)) = some r := H
    have A5 := Aside0.mk A50
    clear A50
    obtain rfl := Option.some.inj H
    go_enter Try.func75, Try.ntmps75
    go_wp2_with (first | ((with_reducible refine gate_callee (f := 93) rfl ?_); refine goesL_ (some 7) rfl rfl Try.func93 (by kernel_rfl) rfl #[.slice A0 l0.length c0, .slice A1 l1.length c1] rfl (by (try simp only [List.map_toArray, List.map_cons, List.map_nil]); first | done | rfl | (simp only [List.length_drop, List.length_take]; rfl)) ?_; (with_reducible refine (spec_lsLess.calls k _ _ l0 _ _ l1 false _ ?side1 ?side2 ?side3 ?side4 A3.out).mono ?_); (case side1 => repeat (first | exact HR0.out | (with_reducible refine Kd.C_alloc ?_ _) | (with_reducible refine Kd.C_drewN ?_ _) | (with_reducible refine Kd.C_drew ?_))); (case side2 => exact HC0.out); (case side3 => repeat (first | exact HR1.out | (with_reducible refine Kd.C_alloc ?_ _) | (with_reducible refine Kd.C_drewN ?_ _) | (with_reducible refine Kd.C_drew ?_))); (case side4 => exact HC1.out); rintro e w' ⟨rfl, ⟨nd, rfl⟩⟩; refine ⟨_, rfl, ?_⟩) | (go_at_call 93; (with_reducible refine (spec_lsLess.calls k _ _ l1 _ _ l0 t702 _ ?side1 ?side2 ?side3 ?side4 A5.out).mono ?_); (case side1 => repeat (first | exact HR1.out | (with_reducible refine Kd.C_alloc ?_ _) | (with_reducible refine Kd.C_drewN ?_ _) | (with_reducible refine Kd.C_drew ?_))); (case side2 => exact HC1.out); (case side3 => repeat (first | exact HR0.out | (with_reducible refine Kd.C_alloc ?_ _) | (with_reducible refine Kd.C_drewN ?_ _) | (with_reducible refine Kd.C_drew ?_))); (case side4 => exact HC0.out); rintro e w' ⟨rfl, ⟨nd, rfl⟩⟩))
    go_ret
    exact ⟨by first | rfl | (simp; done) | (simp [*]; done), by repeat (first | exact Drawn0.refl _ | apply Drawn0.step)⟩

/-! ### spec_CountPattern: function 40 -/
mutual
def spec_CountPattern.j0 : Nat → List Int → List Int → Bool → Option (Int × Bool)
  | 0, _, _, _ => none
  | k + 1, x0, x1, x17 => if x17 = true then (some (0, false)) else (spec_CountPattern.l0 k x0 x1 0 0)
def spec_CountPattern.l0 : Nat → List Int → List Int → Int → Int → Option (Int × Bool)
  | 0, _, _, _, _ => none
  | k + 1, x0, x1, x6, x7 => if x7 < (shl .i64 1 (x0.length : Int)) then (spec_CountPattern.l1 k x0 x1 x6 x7 ([] : List Int) (x0.length : Int) 0) else (some (x6, true))
def spec_CountPattern.l1 : Nat → List Int → List Int → Int → Int → List Int → Int → Int → Option (Int × Bool)
  | 0, _, _, _, _, _, _, _ => none
  | k + 1, x0, x1, x6, x7, x8, x26, x27 => if x27 < x26 then (if 0 ≤ x27 then (if (Int.tmod (shr .i64 x7 x27) 2) = 1 then (if x8.length < 17592186044416 then (spec_CountPattern.l1 k x0 x1 x6 x7 (x8 ++ [x27]) x26 (wrap64 (x27 + 1))) else (none)) else (spec_CountPattern.l1 k x0 x1 x6 x7 x8 x26 (wrap64 (x27 + 1)))) else (none)) else (if (x8.length : Int) = (x1.length : Int) then ((spec_mrPattern.f k x0 x8).bind fun t708 => ((spec_lsSame.f k t708 x1).bind fun t711 => (if t711 = true then (spec_CountPattern.l0 k x0 x1 (wrap64 (x6 + 1)) (wrap64 (x7 + 1))) else (spec_CountPattern.l0 k x0 x1 x6 (wrap64 (x7 + 1)))))) else (spec_CountPattern.l0 k x0 x1 x6 (wrap64 (x7 + 1))))
end
def spec_CountPattern.f (k : Nat) (l0 : List Int) (l1 : List Int) : Option (Int × Bool) := (spec_laOrder.f k l0).bind fun t703 => (if t703 = true then ((spec_laOrder.f k l1).bind fun t704 => (spec_CountPattern.j0 k l0 l1 (!t704))) else (spec_CountPattern.j0 k l0 l1 true))
theorem spec_CountPattern.mono_l : ∀ k, (∀ y0 y1 y2, LeO (spec_CountPattern.j0 k y0 y1 y2) (spec_CountPattern.j0 (k + 1) y0 y1 y2)) ∧ (∀ y0 y1 y2 y3, LeO (spec_CountPattern.l0 k y0 y1 y2 y3) (spec_CountPattern.l0 (k + 1) y0 y1 y2 y3)) ∧ (∀ y0 y1 y2 y3 y4 y5 y6, LeO (spec_CountPattern.l1 k y0 y1 y2 y3 y4 y5 y6) (spec_CountPattern.l1 (k + 1) y0 y1 y2 y3 y4 y5 y6))
  | 0 => ⟨fun _ _ _ r h => by simp [spec_CountPattern.j0] at h, fun _ _ _ _ r h => by simp [spec_CountPattern.l0] at h, fun _ _ _ _ _ _ _ r h => by simp [spec_CountPattern.l1] at h⟩
  | k + 1 => by
    obtain ⟨ih0, ih1, ih2⟩ := spec_CountPattern.mono_l k
    refine ⟨?_, ?_, ?_⟩
    · intro y0 y1 y2
      unfold spec_CountPattern.j0
      repeat' first
      | (with_reducible exact ih0 _ _ _)
      | (with_reducible exact ih1 _ _ _ _)
      | (with_reducible exact ih2 _ _ _ _ _ _ _)
      | (with_reducible exact spec_laOrder.mono _ _)
      | (with_reducible exact spec_lsSame.mono _ _ _)
      | (with_reducible exact spec_mrPattern.mono _ _ _)
      | (with_reducible exact LeO.refl _)
      | (with_reducible exact LeO.none _)
      | (with_reducible refine LeO.ite ?_ ?_)
      | (with_reducible refine LeO.bind ?_ (fun _ => ?_))
      | exact ih0 _ _ _
      | exact ih1 _ _ _ _
      | exact ih2 _ _ _ _ _ _ _
      | exact spec_laOrder.mono _ _
      | exact spec_lsSame.mono _ _ _
      | exact spec_mrPattern.mono _ _ _
      | exact LeO.none _
      | refine LeO.ite ?_ ?_
      | refine LeO.bind ?_ (fun _ => ?_)
    · intro y0 y1 y2 y3
      unfold spec_CountPattern.l0
      repeat' first
      | (with_reducible exact ih0 _ _ _)
      | (with_reducible exact ih1 _ _ _ _)
      | (with_reducible exact ih2 _ _ _ _ _ _ _)
      | (with_reducible exact spec_laOrder.mono _ _)
      | (with_reducible exact spec_lsSame.mono _ _ _)
      | (with_reducible exact spec_mrPattern.mono _ _ _)
      | (with_reducible exact LeO.refl _)
      | (with_reducible exact LeO.none _)
      | (with_reducible refine LeO.ite ?_ ?_)
      | (with_reducible refine LeO.bind ?_ (fun _ => ?_))
      | exact ih0 _ _ _
      | exact ih1 _ _ _ _
      | exact ih2 _ _ _ _ _ _ _
      | exact spec_laOrder.mono _ _
      | exact spec_lsSame.mono _ _ _
      | exact spec_mrPattern.mono _ _ _
      | exact LeO.none _
      | refine LeO.ite ?_ ?_
      | refine LeO.bind ?_ (fun _ => ?_)
    · intro y0 y1 y2 y3 y4 y5 y6
      unfold spec_CountPattern.l1
      repeat' first
      | (with_reducible exact ih0 _ _ _)
      | (with_reducible exact ih1 _ _ _ _)
      | (with_reducible exact ih2 _ _ _ _ _ _ _)
      | (with_reducible exact spec_laOrder.mono _ _)
      | (with_reducible exact spec_lsSame.mono _ _ _)
      | (with_reducible exact spec_mrPattern.mono _ _ _)
      | (with_reducible exact LeO.refl _)
      | (with_reducible exact LeO.none _)
      | (with_reducible refine LeO.ite ?_ ?_)
      | (with_reducible refine LeO.bind ?_ (fun _ => ?_))
      | exact ih0 _ _ _
      | exact ih1 _ _ _ _
      | exact ih2 _ _ _ _ _ _ _
      | exact spec_laOrder.mono _ _
      | exact spec_lsSame.mono _ _ _
      | exact spec_mrPattern.mono _ _ _
      | exact LeO.none _
      | refine LeO.ite ?_ ?_
      | refine LeO.bind ?_ (fun _ => ?_)
theorem spec_CountPattern.mono : ∀ a0 a1 k, LeO (spec_CountPattern.f k a0 a1) (spec_CountPattern.f (k + 1) a0 a1) := by
  intro a0 a1 k
  obtain ⟨ih0, ih1, ih2⟩ := spec_CountPattern.mono_l k
  unfold spec_CountPattern.f
  repeat' first
      | (with_reducible exact ih0 _ _ _)
      | (with_reducible exact ih1 _ _ _ _)
      | (with_reducible exact ih2 _ _ _ _ _ _ _)
      | (with_reducible exact spec_laOrder.mono _ _)
      | (with_reducible exact spec_lsSame.mono _ _ _)
      | (with_reducible exact spec_mrPattern.mono _ _ _)
      | (with_reducible exact LeO.refl _)
      | (with_reducible exact LeO.none _)
      | (with_reducible refine LeO.ite ?_ ?_)
      | (with_reducible refine LeO.bind ?_ (fun _ => ?_))
      | exact ih0 _ _ _
      | exact ih1 _ _ _ _
      | exact ih2 _ _ _ _ _ _ _
      | exact spec_laOrder.mono _ _
      | exact spec_lsSame.mono _ _ _
      | exact spec_mrPattern.mono _ _ _
      | exact LeO.none _
      | refine LeO.ite ?_ ?_
      | refine LeO.bind ?_ (fun _ => ?_)
set_option maxHeartbeats 8000000 in
set_option maxRecDepth 100000 in
theorem spec_CountPattern.calls (k : Nat) (A0 : Option Addr) (c0 : Nat) (l0 : List Int) (A1 : Option Addr) (c1 : Nat) (l1 : List Int) (r1 : Int) (r2 : Bool) (w : World) (hr0 : Kd.C (Kd.int .i64) w A0 l0.length l0) (hc0 : l0.length ≤ c0) (hr1 : Kd.C (Kd.int .i64) w A1 l1.length l1) (hc1 : l1.length ≤ c1) (h : spec_CountPattern.f k l0 l1 = some (r1, r2)) :
    Calls Try.prog 40 #[.slice A0 l0.length c0, .slice A1 l1.length c1] w fun e w' => e = .returned (.tuple #[.int .i64 r1, .bool r2]) ∧ Below w.heap.size w w' := by
  have HR0 := Aside0.mk hr0
  have HC0 := Aside0.mk hc0
  clear hr0 hc0
  have HR1 := Aside0.mk hr1
  have HC1 := Aside0.mk hc1
  clear hr1 hc1
  have HB := Aside0.mk (Below.refl w.heap.size w)
  have H : ((spec_laOrder.f k l0).bind fun t703 => (if t703 = true then ((spec_laOrder.f k l1).bind fun t704 => (spec_CountPattern.j0 k l0 l1 (!t704))) else (spec_CountPattern.j0 k l0 l1 true))) = some (r1, r2) := h
  clear h
  have HC3 := Aside0.mk H
  clear H
  go_enter Try.func40, Try.ntmps40
  go_upto_region 1 with (fail)
  go_cut [17] (fun v17 wc => ∃ (kq : Nat) (x17_2 : Bool), v17 = .bool x17_2 ∧ Aside0 (spec_CountPattern.j0 kq l0 l1 x17_2 = some (r1, r2)) ∧ Aside0 (kq ≤ k) ∧ Aside0 (Below w.heap.size w wc))
  case first =>
    have H := HC3.out
    clear HC3
    replace H := Option.bind_eq_some_iff.mp H
    obtain ⟨t703, A40, H⟩ := H
    replace H : (if t703 = true then ((spec_laOrder.f k l1).bind fun t704 => (spec_CountPattern.j0 k l0 l1 (!t704))) else (spec_CountPattern.j0 k l0 l1 true)) = some (r1, r2) := H
    have A4 := Aside0.mk A40
    clear A40
    by_cases c5 : t703 = true
    · subst c5
      have H1 : ((spec_laOrder.f k l1).bind fun t704 => (spec_CountPattern.j0 k l0 l1 (!t704))) = some (r1, r2) := by rw [if_pos rfl] at H; exact H
      clear H
      have H := H1
      clear H1
      replace H := Option.bind_eq_some_iff.mp H
      obtain ⟨t704, A60, H⟩ := H
      replace H : (spec_CountPattern.j0 k l0 l1 (!t704)) = some (r1, r2) := H
      have A6 := Aside0.mk A60
      clear A60
      have H' := Aside0.mk H
      clear H
      go_wp2_with (first | ((with_reducible refine gate_callee (f := 67) rfl ?_); refine goesL_ (some 11) rfl rfl Try.func67 (by kernel_rfl) rfl #[.slice A0 l0.length c0] rfl (by (try simp only [List.map_toArray, List.map_cons, List.map_nil]); first | done | rfl | (simp only [List.length_drop, List.length_take]; rfl)) ?_; (with_reducible refine (spec_laOrder.calls k _ _ l0 true _ ?side1 ?side2 A4.out).mono ?_); (case side1 => repeat (first | exact (Kd.C_below HR0.out HB.out) | (with_reducible refine Kd.C_alloc ?_ _) | (with_reducible refine Kd.C_drewN ?_ _) | (with_reducible refine Kd.C_drew ?_))); (case side2 => exact HC0.out); rintro e w' ⟨rfl, ⟨nd, rfl⟩⟩; refine ⟨_, rfl, ?_⟩) | (go_at_call 67; (with_reducible refine (spec_laOrder.calls k _ _ l1 t704 _ ?side1 ?side2 A6.out).mono ?_); (case side1 => repeat (first | exact (Kd.C_below HR1.out (by repeat (first | (with_reducible first | exact HB.out | apply below_alloc | apply pw_below_drewN | apply below_drew1) | exact HB.out))) | (with_reducible refine Kd.C_alloc ?_ _) | (with_reducible refine Kd.C_drewN ?_ _) | (with_reducible refine Kd.C_drew ?_))); (case side2 => exact HC1.out); rintro e w' ⟨rfl, ⟨nd, rfl⟩⟩))
      go_meet
      case rel => exact ⟨_, (!t704), (by first | rfl | (simp; done) | (simp [*]; done)), H', ⟨by first | omega | exact Nat.le_refl _⟩, ⟨by repeat (first | (with_reducible first | exact HB.out | apply below_alloc | apply pw_below_drewN | apply below_drew1) | exact HB.out)⟩⟩
    · replace c5 := Bool.eq_false_iff.mpr c5
      subst c5
      have H1 : (spec_CountPattern.j0 k l0 l1 true) = some (r1, r2) := by rw [if_neg (show ¬ (false = true) by decide)] at H; exact H
      clear H
      have H := H1
      clear H1
      have H' := Aside0.mk H
      clear H
      go_wp2_with (first | ((with_reducible refine gate_callee (f := 67) rfl ?_); refine goesL_ (some 11) rfl rfl Try.func67 (by kernel_rfl) rfl #[.slice A0 l0.length c0] rfl (by (try simp only [List.map_toArray, List.map_cons, List.map_nil]); first | done | rfl | (simp only [List.length_drop, List.length_take]; rfl)) ?_; (with_reducible refine (spec_laOrder.calls k _ _ l0 false _ ?side1 ?side2 A4.out).mono ?_); (case side1 => repeat (first | exact (Kd.C_below HR0.out HB.out) | (with_reducible refine Kd.C_alloc ?_ _) | (with_reducible refine Kd.C_drewN ?_ _) | (with_reducible refine Kd.C_drew ?_))); (case side2 => exact HC0.out); rintro e w' ⟨rfl, ⟨nd, rfl⟩⟩; refine ⟨_, rfl, ?_⟩))
      go_meet
      case rel => exact ⟨_, (true), (by first | rfl | (simp; done) | (simp [*]; done)), H', ⟨by first | omega | exact Nat.le_refl _⟩, ⟨by repeat (first | (with_reducible first | exact HB.out | apply below_alloc | apply pw_below_drewN | apply below_drew1) | exact HB.out)⟩⟩
  case rest =>
    clear HC3
    try clear c1
    try clear p2
    try clear c4
    try clear c5
    try clear c6
    obtain ⟨kq, x17_2, rfl, HA, HJ2, HB⟩ := hcut
    cases kq with
    | zero => exact absurd HA.out (by simp [spec_CountPattern.j0])
    | succ kj2 =>
      have H := HA.out
      clear HA
      simp only [spec_CountPattern.j0] at H
      by_cases c7 : x17_2 = true
      · subst c7
        have H1 : (some (0, false)) = some (r1, r2) := by rw [if_pos rfl] at H; exact H
        clear H
        have H := H1
        clear H1
        simp only [Option.some.injEq, Prod.mk.injEq] at H
        obtain ⟨rfl, rfl⟩ := H
        go_wp2
        go_ret2
        exact ⟨by first | rfl | (simp [errW_none, errW_some] <;> rfl) | (simp [*, errW_none, errW_some] <;> rfl), by repeat (first | (with_reducible first | exact HB.out | apply below_alloc | apply pw_below_drewN | apply below_drew1) | exact HB.out)⟩
      · replace c7 := Bool.eq_false_iff.mpr c7
        subst c7
        have H1 : (spec_CountPattern.l0 kj2 l0 l1 0 0) = some (r1, r2) := by rw [if_neg (show ¬ (false = true) by decide)] at H; exact H
        clear H
        have H := H1
        clear H1
        have H' := Aside0.mk H
        clear H
        go_wp2
        go_loopg [6, 7] kj2 (fun kq v6 v7 w' => ∃ (x6_2 : Int) (x7_2 : Int), v6 = .int .i64 x6_2 ∧ v7 = .int .i64 x7_2 ∧ Aside0 (spec_CountPattern.l0 kq l0 l1 x6_2 x7_2 = some (r1, r2)) ∧ Aside0 (kq ≤ kj2) ∧ Aside0 (Below w.heap.size w w'))
        case atStart => exact ⟨(0), (0), (by first | rfl | (simp; done) | (simp [*]; done)), (by first | rfl | (simp; done) | (simp [*]; done)), H', ⟨Nat.le_refl _⟩, ⟨by repeat (first | (with_reducible first | exact HB.out | apply below_alloc | apply pw_below_drewN | apply below_drew1) | exact HB.out)⟩⟩
        case round =>
          clear H'
          try clear c1
          try clear p2
          try clear c4
          try clear c5
          try clear c6
          try clear c7
          try clear p2
          obtain ⟨x6_2, x7_2, rfl, rfl, HA, HK2, HB⟩ := hrel
          cases gk with
          | zero => exact absurd HA.out (by simp [spec_CountPattern.l0])
          | succ k2 =>
            have H := HA.out
            clear HA
            simp only [spec_CountPattern.l0] at H
            obtain ⟨ji8, hji8⟩ : ∃ j_ : Int, (shl .i64 1 (l0.length : Int)) = j_ := ⟨_, rfl⟩
            replace H : (if x7_2 < (ji8) then (spec_CountPattern.l1 k2 l0 l1 x6_2 x7_2 ([] : List Int) (l0.length : Int) 0) else (some (x6_2, true))) = some (r1, r2) := by first | (rw [hji8] at H; exact H) | (simp only [hji8] at H ⊢; exact H)
            have hji8_ : (IntKind.i64.wrap (1 * 2 ^ min (l0.length : Int).toNat 64)) = ji8 := hji8
            have hji8z : (l0.length : Int) ≤ 64 → (IntKind.i64.wrap (1 * 2 ^ (l0.length : Int).toNat)) = ji8 := shl_small hji8
            have hji8p : (IntKind.i64.wrap (1 * 2 ^ min l0.length 64)) = ji8 := hji8_
            have hji8q : (l0.length : Int) ≤ 64 → (IntKind.i64.wrap (1 * 2 ^ l0.length)) = ji8 := hji8z
            have hji8r : (IntKind.i64.wrap (2 ^ min l0.length 64)) = ji8 := by have h_ := hji8p; rw [Int.one_mul] at h_; exact h_
            have hji8s : (l0.length : Int) ≤ 64 → (IntKind.i64.wrap (2 ^ l0.length)) = ji8 := fun hle_ => by have h_ := hji8q hle_; rw [Int.one_mul] at h_; exact h_
            have hji8u : (IntKind.i64.wrap (2 ^ min (l0.length : Int).toNat 64)) = ji8 := by have h_ := hji8_; rw [Int.one_mul] at h_; exact h_
            have hji8v : (l0.length : Int) ≤ 64 → (IntKind.i64.wrap (2 ^ (l0.length : Int).toNat)) = ji8 := fun hle_ => by have h_ := hji8z hle_; rw [Int.one_mul] at h_; exact h_
            have hji8y : (wrap64 (1 * 2 ^ min (l0.length : Int).toNat 64)) = ji8 := (i64_w _).symm.trans hji8_
            have hji8x : (l0.length : Int) ≤ 64 → (wrap64 (1 * 2 ^ (l0.length : Int).toNat)) = ji8 := fun h_ => (i64_w _).symm.trans (hji8z h_)
            by_cases c9 : x7_2 < (ji8)
            · rw [if_pos c9] at H
              have c9b0 : decide (x7_2 < (ji8)) = true := decide_eq_true c9
              clear c9
              have H' := Aside0.mk H
              clear H
              go_wp2
              go_loopg [8, 27] k2 (fun kq v8 v27 w' => ∃ (x8_3 : List Int) (x27_3 : Int), v27 = .int .i64 x27_3 ∧ Aside0 (spec_CountPattern.l1 kq l0 l1 x6_2 x7_2 x8_3 (l0.length : Int) x27_3 = some (r1, r2)) ∧ Aside0 (kq ≤ k2) ∧ Aside0 (Kd.R (Kd.int .i64) 3 w' w.heap.size (fun _ => True) v8 x8_3) ∧ Aside0 (Below w.heap.size w w'))
              case atStart => exact ⟨(([] : List Int)), (0), (by first | rfl | (simp; done) | (simp [*]; done)), H', ⟨Nat.le_refl _⟩, ⟨by first | exact Kd.R_nil _ _ _ _ _ | exact Kd.N_nil _ _ _ _ _ | exact Kd.V_nil _ _ _ _ _ | exact Kd.Q_nil _ _ _ _ _ | exact Kd.S_nil _ _ _ _ _⟩, ⟨by repeat (first | (with_reducible first | exact HB.out | apply below_alloc | apply pw_below_drewN | apply below_drew1) | exact HB.out)⟩⟩
              case round =>
                clear H'
                try clear c1
                try clear p2
                try clear c4
                try clear c5
                try clear c6
                try clear p6
                try clear c7
                try clear c9
                try clear c9b0
                try clear p2
                obtain ⟨x8_3, x27_3, rfl, HA, HK3, HO_8, HB⟩ := hrel
                cases gk with
                | zero => exact absurd HA.out (by simp [spec_CountPattern.l1])
                | succ k3 =>
                  have H := HA.out
                  clear HA
                  simp only [spec_CountPattern.l1] at H
                  by_cases c10 : x27_3 < (l0.length : Int)
                  · rw [if_pos c10] at H
                    have c10b0 : decide (x27_3 < (l0.length : Int)) = true := decide_eq_true c10
                    clear c10
                    by_cases c11 : 0 ≤ x27_3
                    · rw [if_pos c11] at H
                      have c11b0 := eq_true c11
                      have c11b1 : decide (0 ≤ x27_3) = true := decide_eq_true c11
                      clear c11
                      obtain ⟨ji12, hji12⟩ : ∃ j_ : Int, (shr .i64 x7_2 x27_3) = j_ := ⟨_, rfl⟩
                      replace H : (if (Int.tmod (ji12) 2) = 1 then (if x8_3.length < 17592186044416 then (spec_CountPattern.l1 k3 l0 l1 x6_2 x7_2 (x8_3 ++ [x27_3]) (l0.length : Int) (wrap64 (x27_3 + 1))) else (none)) else (spec_CountPattern.l1 k3 l0 l1 x6_2 x7_2 x8_3 (l0.length : Int) (wrap64 (x27_3 + 1)))) = some (r1, r2) := by first | (rw [hji12] at H; exact H) | (simp only [hji12] at H ⊢; exact H)
                      have hji12_ : (x7_2 / 2 ^ min x27_3.toNat 64) = ji12 := hji12
                      have hji12z : x27_3 ≤ 64 → (x7_2 / 2 ^ x27_3.toNat) = ji12 := shr_small hji12
                      by_cases c13 : (Int.tmod (ji12) 2) = 1
                      · rw [if_pos c13] at H
                        have c13b0 : ((Int.tmod (ji12) 2) == 1) = true := beq_iff_eq.mpr c13
                        have c13b1 : ((Int.tmod (ji12) 2) != 1) = false := bne_eq_false_iff_eq.mpr c13
                        clear c13
                        by_cases c14 : x8_3.length < 17592186044416
                        · rw [if_pos c14] at H
                          have LMc14 := Aside0.mk c14
                          clear c14
                          obtain ⟨y705, hy705⟩ : ∃ y_ : List Int, y_ = (x8_3 ++ [x27_3]) := ⟨_, rfl⟩
                          replace H : (spec_CountPattern.l1 k3 l0 l1 x6_2 x7_2 y705 (l0.length : Int) (wrap64 (x27_3 + 1))) = some (r1, r2) := by first | (rw [hy705]; with_reducible exact H) | (have H2_ := (Option.bind_some _ _).symm.trans H; rw [hy705]; with_reducible exact H2_) | (have H2_ := (Option.bind_some _ _).symm.trans H; with_reducible exact H2_) | with_reducible exact H | (rw [hy705]; exact H) | exact H
                          have Ny705 := Aside0.mk hy705
                          clear hy705
                          have H' := Aside0.mk H
                          clear H
                          go_wp2_with (first | ((with_reducible refine gate_builtin (b := .append) (xs := #[.tmp 35, .tmp 37]) rfl ?_); at_builtin; refine Kd.R_append (Kd.int .i64) (w0 := w) w.heap.size rfl (.tmp 35) (.tmp 37) 22 3 (.int .i64 0) 8 rfl Try.underlying22 info3 rfl (by decide) (by omega) u8 x8_3 x27_3 [.int .i64 x27_3] (fun _ => True) (fun _ => False) rfl rfl ?aP (fun _ hk => hk.elim) ?aF ?aO ?aB ?aS ?aL ?_; (case aP => exact rfl); (case aB => exact (by repeat (first | (with_reducible first | exact HB.out | apply below_alloc | apply pw_below_drewN | apply below_drew1) | exact HB.out))); (case aF => exact (fun _ _ => trivial)); (case aO => exact (by (with_reducible repeat (first | apply Kd.R_alloc | apply Kd.R_drewN | apply Kd.R_drew)); exact HO_8.out)); (case aS => exact (below_size (by repeat (first | (with_reducible first | exact HB.out | apply below_alloc | apply pw_below_drewN | apply below_drew1) | exact HB.out)))); (case aL => have := LMc14.out; omega); intro v706 w15 ho hb hg hat; rw [← Ny705.out] at ho; have n0_ := Aside0.mk (hb); have n1_ := Aside0.mk (ho); clear HB; clear HO_8; have HB := n0_; have HO707 := n1_; clear n0_ n1_; clear ho hb hg hat))
                          go_roundg k3
                          case measure => have := HJ2.out; have := HK2.out; have := HK3.out; omega
                          case rel => exact ⟨(y705), (wrap64 (x27_3 + 1)), (by first | rfl | (simp; done) | (simp [*]; done)), H', ⟨by have := HJ2.out; have := HK2.out; have := HK3.out; omega⟩, ⟨by (with_reducible repeat (first | apply Kd.R_alloc | apply Kd.R_drewN | apply Kd.R_drew)); exact HO707.out⟩, ⟨by repeat (first | (with_reducible first | exact HB.out | apply below_alloc | apply pw_below_drewN | apply below_drew1) | exact HB.out)⟩⟩
                        · rw [if_neg c14] at H
                          exact absurd H (by simp)
                      · rw [if_neg c13] at H
                        have c13b0 : ((Int.tmod (ji12) 2) == 1) = false := beq_eq_false_iff_ne.mpr c13
                        have c13b1 : ((Int.tmod (ji12) 2) != 1) = true := bne_iff_ne.mpr c13
                        have H' := Aside0.mk H
                        clear H
                        go_wp2
                        go_roundg k3
                        case measure => have := HJ2.out; have := HK2.out; have := HK3.out; omega
                        case rel => exact ⟨(x8_3), (wrap64 (x27_3 + 1)), (by first | rfl | (simp; done) | (simp [*]; done)), H', ⟨by have := HJ2.out; have := HK2.out; have := HK3.out; omega⟩, ⟨by (with_reducible repeat (first | apply Kd.R_alloc | apply Kd.R_drewN | apply Kd.R_drew)); exact HO_8.out⟩, ⟨by repeat (first | (with_reducible first | exact HB.out | apply below_alloc | apply pw_below_drewN | apply below_drew1) | exact HB.out)⟩⟩
                    · rw [if_neg c11] at H
                      exact absurd H (by simp)
                  · rw [if_neg c10] at H
                    have c10b0 : decide (x27_3 < (l0.length : Int)) = false := decide_eq_false c10
                    clear c10
                    by_cases c16 : (x8_3.length : Int) = (l1.length : Int)
                    · rw [if_pos c16] at H
                      have c16b0 : ((x8_3.length : Int) == (l1.length : Int)) = true := beq_iff_eq.mpr c16
                      have c16b1 : ((x8_3.length : Int) != (l1.length : Int)) = false := bne_eq_false_iff_eq.mpr c16
                      have c16b2 : (x8_3.length == l1.length) = true := by first | simpa using c16 | (simp at c16 ⊢; omega)
                      clear c16
                      replace H := Option.bind_eq_some_iff.mp H
                      obtain ⟨t708, A170, H⟩ := H
                      replace H : ((spec_lsSame.f k3 t708 l1).bind fun t711 => (if t711 = true then (spec_CountPattern.l0 k3 l0 l1 (wrap64 (x6_2 + 1)) (wrap64 (x7_2 + 1))) else (spec_CountPattern.l0 k3 l0 l1 x6_2 (wrap64 (x7_2 + 1))))) = some (r1, r2) := H
                      have A17 := Aside0.mk A170
                      clear A170
                      replace H := Option.bind_eq_some_iff.mp H
                      obtain ⟨t711, A180, H⟩ := H
                      replace H : (if t711 = true then (spec_CountPattern.l0 k3 l0 l1 (wrap64 (x6_2 + 1)) (wrap64 (x7_2 + 1))) else (spec_CountPattern.l0 k3 l0 l1 x6_2 (wrap64 (x7_2 + 1)))) = some (r1, r2) := H
                      have A18 := Aside0.mk A180
                      clear A180
                      by_cases c19 : t711 = true
                      · subst c19
                        have H1 : (spec_CountPattern.l0 k3 l0 l1 (wrap64 (x6_2 + 1)) (wrap64 (x7_2 + 1))) = some (r1, r2) := by rw [if_pos rfl] at H; exact H
                        clear H
                        have H := H1
                        clear H1
                        have H' := Aside0.mk H
                        clear H
                        obtain ⟨Ao20, co20, eo20⟩ := Kd.R_slice HO_8.out
                        subst eo20
                        go_wp2_with (first | (go_at_call 69; (with_reducible refine (spec_mrPattern.calls k3 _ _ l0 _ _ x8_3 t708 _ ?side1 ?side2 ?side3 ?side4 A17.out).mono ?_); (case side1 => repeat (first | exact (Kd.C_below HR0.out HB.out) | (with_reducible refine Kd.C_alloc ?_ _) | (with_reducible refine Kd.C_drewN ?_ _) | (with_reducible refine Kd.C_drew ?_))); (case side2 => exact HC0.out); (case side3 => repeat (first | exact (Kd.R_reads' HO_8.out).2.2 | (with_reducible refine Kd.C_alloc ?_ _) | (with_reducible refine Kd.C_drewN ?_ _) | (with_reducible refine Kd.C_drew ?_))); (case side4 => exact (Kd.R_reads' HO_8.out).2.1); rintro e w21 ⟨v709, rfl, ho0, hb⟩; have n0_ := Aside0.mk (Kd.R_elder' (by (with_reducible repeat (first | apply Kd.R_alloc | apply Kd.R_drewN | apply Kd.R_drew)); exact HO_8.out) (Kd.R_base ho0) hb); have n1_ := Aside0.mk (Kd.R_lower (Kd.R_new' ho0 (Kd.R_lt (by (with_reducible repeat (first | apply Kd.R_alloc | apply Kd.R_drewN | apply Kd.R_drew)); exact HO_8.out))) (below_size (by repeat (first | (with_reducible first | exact HB.out | apply below_alloc | apply pw_below_drewN | apply below_drew1) | exact HB.out)))); have n2_ := Aside0.mk (below_step (by repeat (first | (with_reducible first | exact HB.out | apply below_alloc | apply pw_below_drewN | apply below_drew1) | exact HB.out)) hb); clear HO_8; clear HB; have HO_8 := n0_; have HO710 := n1_; have HB := n2_; clear n0_ n1_ n2_; (try clear hb); (try clear hb2); (try clear hk); (try clear hi); (try clear ho0); obtain ⟨Ao22, co22, eo22⟩ := Kd.R_slice HO710.out; subst eo22) | (go_at_call 75; (with_reducible refine (spec_lsSame.calls k3 _ _ t708 _ _ l1 true _ ?side1 ?side2 ?side3 ?side4 A18.out).mono ?_); (case side1 => repeat (first | exact (Kd.R_reads' HO710.out).2.2 | (with_reducible refine Kd.C_alloc ?_ _) | (with_reducible refine Kd.C_drewN ?_ _) | (with_reducible refine Kd.C_drew ?_))); (case side2 => exact (Kd.R_reads' HO710.out).2.1); (case side3 => repeat (first | exact (Kd.C_below HR1.out HB.out) | (with_reducible refine Kd.C_alloc ?_ _) | (with_reducible refine Kd.C_drewN ?_ _) | (with_reducible refine Kd.C_drew ?_))); (case side4 => exact HC1.out); rintro e w' ⟨rfl, ⟨nd, rfl⟩⟩))
                        go_roundg k3
                        case measure => have := HJ2.out; have := HK2.out; have := HK3.out; omega
                        case rel => exact ⟨(wrap64 (x6_2 + 1)), (wrap64 (x7_2 + 1)), (by first | rfl | (simp; done) | (simp [*]; done)), (by first | rfl | (simp; done) | (simp [*]; done)), H', ⟨by have := HJ2.out; have := HK2.out; have := HK3.out; omega⟩, ⟨by repeat (first | (with_reducible first | exact HB.out | apply below_alloc | apply pw_below_drewN | apply below_drew1) | exact HB.out)⟩⟩
                      · replace c19 := Bool.eq_false_iff.mpr c19
                        subst c19
                        have H1 : (spec_CountPattern.l0 k3 l0 l1 x6_2 (wrap64 (x7_2 + 1))) = some (r1, r2) := by rw [if_neg (show ¬ (false = true) by decide)] at H; exact H
                        clear H
                        have H := H1
                        clear H1
                        have H' := Aside0.mk H
                        clear H
                        obtain ⟨Ao23, co23, eo23⟩ := Kd.R_slice HO_8.out
                        subst eo23
                        go_wp2_with (first | (go_at_call 69; (with_reducible refine (spec_mrPattern.calls k3 _ _ l0 _ _ x8_3 t708 _ ?side1 ?side2 ?side3 ?side4 A17.out).mono ?_); (case side1 => repeat (first | exact (Kd.C_below HR0.out HB.out) | (with_reducible refine Kd.C_alloc ?_ _) | (with_reducible refine Kd.C_drewN ?_ _) | (with_reducible refine Kd.C_drew ?_))); (case side2 => exact HC0.out); (case side3 => repeat (first | exact (Kd.R_reads' HO_8.out).2.2 | (with_reducible refine Kd.C_alloc ?_ _) | (with_reducible refine Kd.C_drewN ?_ _) | (with_reducible refine Kd.C_drew ?_))); (case side4 => exact (Kd.R_reads' HO_8.out).2.1); rintro e w24 ⟨v709, rfl, ho0, hb⟩; have n0_ := Aside0.mk (Kd.R_elder' (by (with_reducible repeat (first | apply Kd.R_alloc | apply Kd.R_drewN | apply Kd.R_drew)); exact HO_8.out) (Kd.R_base ho0) hb); have n1_ := Aside0.mk (Kd.R_lower (Kd.R_new' ho0 (Kd.R_lt (by (with_reducible repeat (first | apply Kd.R_alloc | apply Kd.R_drewN | apply Kd.R_drew)); exact HO_8.out))) (below_size (by repeat (first | (with_reducible first | exact HB.out | apply below_alloc | apply pw_below_drewN | apply below_drew1) | exact HB.out)))); have n2_ := Aside0.mk (below_step (by repeat (first | (with_reducible first | exact HB.out | apply below_alloc | apply pw_below_drewN | apply below_drew1) | exact HB.out)) hb); clear HO_8; clear HB; have HO_8 := n0_; have HO710 := n1_; have HB := n2_; clear n0_ n1_ n2_; (try clear hb); (try clear hb2); (try clear hk); (try clear hi); (try clear ho0); obtain ⟨Ao25, co25, eo25⟩ := Kd.R_slice HO710.out; subst eo25) | (go_at_call 75; (with_reducible refine (spec_lsSame.calls k3 _ _ t708 _ _ l1 false _ ?side1 ?side2 ?side3 ?side4 A18.out).mono ?_); (case side1 => repeat (first | exact (Kd.R_reads' HO710.out).2.2 | (with_reducible refine Kd.C_alloc ?_ _) | (with_reducible refine Kd.C_drewN ?_ _) | (with_reducible refine Kd.C_drew ?_))); (case side2 => exact (Kd.R_reads' HO710.out).2.1); (case side3 => repeat (first | exact (Kd.C_below HR1.out HB.out) | (with_reducible refine Kd.C_alloc ?_ _) | (with_reducible refine Kd.C_drewN ?_ _) | (with_reducible refine Kd.C_drew ?_))); (case side4 => exact HC1.out); rintro e w' ⟨rfl, ⟨nd, rfl⟩⟩))
                        go_roundg k3
                        case measure => have := HJ2.out; have := HK2.out; have := HK3.out; omega
                        case rel => exact ⟨(x6_2), (wrap64 (x7_2 + 1)), (by first | rfl | (simp; done) | (simp [*]; done)), (by first | rfl | (simp; done) | (simp [*]; done)), H', ⟨by have := HJ2.out; have := HK2.out; have := HK3.out; omega⟩, ⟨by repeat (first | (with_reducible first | exact HB.out | apply below_alloc | apply pw_below_drewN | apply below_drew1) | exact HB.out)⟩⟩
                    · rw [if_neg c16] at H
                      have c16b0 : ((x8_3.length : Int) == (l1.length : Int)) = false := beq_eq_false_iff_ne.mpr c16
                      have c16b1 : ((x8_3.length : Int) != (l1.length : Int)) = true := bne_iff_ne.mpr c16
                      have c16b2 : (x8_3.length == l1.length) = false := by first | simpa using c16 | (simp at c16 ⊢; omega)
                      have H' := Aside0.mk H
                      clear H
                      obtain ⟨Ao26, co26, eo26⟩ := Kd.R_slice HO_8.out
                      subst eo26
                      go_wp2
                      go_roundg k3
                      case measure => have := HJ2.out; have := HK2.out; have := HK3.out; omega
                      case rel => exact ⟨(x6_2), (wrap64 (x7_2 + 1)), (by first | rfl | (simp; done) | (simp [*]; done)), (by first | rfl | (simp; done) | (simp [*]; done)), H', ⟨by have := HJ2.out; have := HK2.out; have := HK3.out; omega⟩, ⟨by repeat (first | (with_reducible first | exact HB.out | apply below_alloc | apply pw_below_drewN | apply below_drew1) | exact HB.out)⟩⟩
            · rw [if_neg c9] at H
              have c9b0 : decide (x7_2 < (ji8)) = false := decide_eq_false c9
              clear c9
              simp only [Option.some.injEq, Prod.mk.injEq] at H
              obtain ⟨rfl, rfl⟩ := H
              go_wp2
              go_ret2
              exact ⟨by first | rfl | (simp [errW_none, errW_some] <;> rfl) | (simp only [← hji8]; first | rfl | (simp [errW_none, errW_some] <;> rfl)) | (simp [*, errW_none, errW_some] <;> rfl), by repeat (first | (with_reducible first | exact HB.out | apply below_alloc | apply pw_below_drewN | apply below_drew1) | exact HB.out)⟩

/-! ### impl_bits: function 76 -/
/-- the digits of a set, the greatest first -/
def bitL (n s : Nat) : List Int := (List.range n).map fun i => ((s / 2 ^ (n - 1 - i) % 2 : Nat) : Int)
def bitTo (n s i : Nat) : List Int := (List.range i).map fun i => ((s / 2 ^ (n - 1 - i) % 2 : Nat) : Int)
theorem bitTo_succ (n s i : Nat) : bitTo n s (i + 1) = bitTo n s i ++ [((s / 2 ^ (n - 1 - i) % 2 : Nat) : Int)] := by simp [bitTo, List.range_succ]
theorem bitTo_length (n s i : Nat) : (bitTo n s i).length = i := by simp [bitTo]
set_option maxHeartbeats 4000000 in
set_option maxRecDepth 100000 in
theorem bits_calls (n : Nat) (hn : n ≤ 20) (g : Nat) (lb : Array Value) (eg : ∀ args w, (callFunc g args).run Try.prog w = .ok (.enter g args) w) (w : World) (J : Nat → World → Prop)
    (hJ : ∀ s W W', J s W → Below W.heap.size W W' → J s W') (h0 : J 0 w)
    (hstep : ∀ s W A c, s < 2 ^ n → Kd.C (Kd.int .i64) W A (bitL n s).length (bitL n s) → (bitL n s).length ≤ c → J s W → Calls Try.prog g (#[.slice A (bitL n s).length c] ++ lb) W fun e W' => e = .returned (.tuple #[]) ∧ J (s + 1) W' ∧ W.heap.size ≤ W'.heap.size) :
    Calls Try.prog 76 #[.int .i64 (n : Int), .func (.func g) #[] lb] w fun e w' => e = .returned (.tuple #[]) ∧ J (2 ^ n) w' := by
  have HJ := Aside0.mk hJ
  have HS := Aside0.mk hstep
  have H0 := Aside0.mk h0
  have HN := Lib.hid hn
  clear hJ hstep h0 hn
  go_enter Try.func76, Try.ntmps76
  go_wp2
  have HPW := Lib.hid (show wrap64 ((2 : Int) ^ min n 64) = ((2 ^ n : Nat) : Int) by
    rw [Nat.min_eq_left (by have := HN.out; omega)]
    have h1 : 2 ^ n ≤ 2 ^ 20 := Nat.pow_le_pow_right (by omega) HN.out
    have h2 : ((2 : Int) ^ n) = ((2 ^ n : Nat) : Int) := by push_cast; rfl
    rw [h2]
    have h3 : (2 : Nat) ^ 20 = 1048576 := by decide
    rw [h3] at h1
    generalize 2 ^ n = q at h1
    unfold wrap64; omega)
  have HP2 := Lib.hid (show 2 ^ n ≤ 1048576 from Nat.le_trans (Nat.pow_le_pow_right (n := 2) (by omega) HN.out) (by decide))
  go_loopg [9] (2 ^ n) (fun gg v9 wr => ∃ s : Nat, s ≤ 2 ^ n ∧ 2 ^ n - s ≤ gg ∧ v9 = .int .i64 (s : Int) ∧ Aside0 (J s wr))
  case atStart => exact ⟨0, Nat.zero_le _, Nat.le_of_eq (Nat.sub_zero _), rfl, H0⟩
  case round =>
    obtain ⟨wq, rfl⟩ : ∃ wq : World, wq = wr := ⟨_, rfl⟩
    clear H0
    obtain ⟨s, hs, hgg, rfl, HJS⟩ := hrel
    by_cases hlt : s < 2 ^ n
    · have c1 : decide ((s : Int) < wrap64 ((2 : Int) ^ min n 64)) = true := decide_eq_true (by rw [HPW.out]; exact Int.ofNat_lt.2 hlt)
      have HLT := Lib.hid hlt
      clear hlt hs
      go_wp2_with (first | ((with_reducible refine gate_dst (N := 12) rfl ?_); refine Kd.R_lit (Kd.int .i64) _ 3 ?hg (N := 12) ?hd (xs := ([] : List (Int))) (inner := []) (ok := fun _ => True) (okp := fun _ => True) ?hr ?hp (fun _ hk => hk) trivial (Below.refl _ _) (Nat.le_refl _) (by simp) ?_; (case hd => rfl); (case hg => rfl); (case hr => first | (go_simp; done) | (go_simp; rfl)); (case hp => exact (Reps.none _ _)); intro vo wo ho8 hb hg_ hnew_; clear hg_ hnew_; have HR := Aside0.mk (show Kd.R (Kd.int .i64) 3 wo wq.heap.size (fun _ => True) vo (bitTo n s 0) from ho8); have HB := Aside0.mk (show Below wq.heap.size wq wo from hb); clear ho8 hb))
      go_loopg [5, 14] n (fun gg v5 v14 wi => ∃ i : Nat, i ≤ n ∧ n - i ≤ gg ∧ v14 = .int .i64 (i : Int) ∧ Aside0 (Kd.R (Kd.int .i64) 3 wi wq.heap.size (fun _ => True) v5 (bitTo n s i)) ∧ Aside0 (Below wq.heap.size wq wi))
      case atStart => exact ⟨0, Nat.zero_le _, by omega, rfl, ⟨HR.out⟩, ⟨HB.out⟩⟩
      case round =>
        clear HR HB
        obtain ⟨i, hi, hg2, rfl, HR, HB⟩ := hrel
        by_cases hlt2 : i < n
        · have d1 : decide ((i : Int) < (n : Int)) = true := decide_eq_true (by omega)
          have e20 : wrap64 ((n : Int) - 1) = ((n - 1 : Nat) : Int) := by have := HN.out; unfold wrap64; omega
          have e22 : wrap64 (((n - 1 : Nat) : Int) - (i : Int)) = ((n - 1 - i : Nat) : Int) := by clear e20; have := HN.out; unfold wrap64; omega
          have hsm : s < 4611686018427387904 := by have h1 := HLT.out; have h2 := HP2.out; clear e20 e22; omega
          have e23 : ((s : Int) / 2 ^ min (n - 1 - i) 64) = (s : Int) / 2 ^ (n - 1 - i) := by rw [Nat.min_eq_left (by have := HN.out; clear e20 e22; omega)]
          obtain ⟨x, hx⟩ : ∃ x : Int, x = ((s / 2 ^ (n - 1 - i) % 2 : Nat) : Int) := ⟨_, rfl⟩
          have e24 : Go.bits .and .i64 ((s : Int) / 2 ^ (n - 1 - i)) 1 = x := by
            have h1 := and_one (s / 2 ^ (n - 1 - i)) (Nat.lt_of_le_of_lt (Nat.div_le_self _ _) hsm)
            have h2 := shr_nat s (n - 1 - i) (by have := HN.out; clear e20 e22 e23 h1; omega)
            rw [e23] at h2
            rw [h2, h1, hx]
          have HXX := Lib.hid hx
          have HLB := Lib.hid (bitTo_length n s i)
          have HLS := Lib.hid (bitTo_succ n s i)
          have HI := Lib.hid hlt2
          have HWI := Lib.hid (show wrap64 ((i : Int) + 1) = ((i + 1 : Nat) : Int) by clear e20 e22 e23 e24; have := HN.out; unfold wrap64; omega)
          clear hsm hlt2 hx
          go_wp2_with (first | ((with_reducible refine gate_builtin (b := .append) (xs := #[.tmp 17, .tmp 25]) rfl ?_); at_builtin; refine Kd.R_append (Kd.int .i64) (w0 := wq) wq.heap.size rfl (.tmp 17) (.tmp 25) 22 3 (.int .i64 0) 8 rfl Try.underlying22 info3 rfl (by decide) (by omega) u5 (bitTo n s i) x [.int .i64 x] (fun _ => True) (fun _ => False) rfl rfl ?aP (fun _ hk => hk.elim) ?aF ?aO ?aB ?aS ?aL ?_; (case aP => exact rfl); (case aB => exact (by repeat (first | (with_reducible first | exact HB.out | apply below_alloc | apply pw_below_drewN | apply below_drew1) | exact HB.out))); (case aF => exact (fun k_ hk => trivial)); (case aO => exact (by (with_reducible repeat (first | apply Kd.R_alloc | apply Kd.R_drewN | apply Kd.R_drew)); exact HR.out)); (case aS => exact (below_size (by repeat (first | (with_reducible first | exact HB.out | apply below_alloc | apply pw_below_drewN | apply below_drew1) | exact HB.out)))); (case aL => exact (by rw [HLB.out]; have := HN.out; have := HI.out; omega)); intro v2 w2 ho hb hg hat; rw [HXX.out, ← HLS.out] at ho; clear HR HB; have HR := Aside0.mk ho; have HB := Aside0.mk hb; clear ho hb hg hat))
          go_roundg (n - (i + 1))
          case measure => have := HI.out; omega
          case rel => exact ⟨i + 1, by have := HI.out; omega, Nat.le_refl _, by rw [← HWI.out], HR, HB⟩
        · have d1 : decide ((i : Int) < (n : Int)) = false := decide_eq_false (by omega)
          obtain rfl : i = n := by omega
          obtain ⟨Ab, cb, eb⟩ := Kd.R_slice HR.out
          subst eb
          have HWS := Lib.hid (show wrap64 ((s : Int) + 1) = ((s + 1 : Nat) : Int) by have := HP2.out; have := HLT.out; unfold wrap64; omega)
          go_wp2_with (first | (go_at_fn g; refine (HS.out s _ Ab cb ?fs1 ?fs2 ?fs3 ?fs4).mono ?_; (case fs1 => exact HLT.out); (case fs2 => exact (Kd.R_reads' HR.out).2.2); (case fs3 => exact (Kd.R_reads' HR.out).2.1); (case fs4 => exact HJ.out s _ _ HJS.out HB.out); rintro e w' ⟨rfl, hj_, hz_⟩; have HJ2 := Aside0.mk hj_; clear hj_ hz_))
          go_roundg (2 ^ i - (s + 1))
          case measure => have := HLT.out; omega
          case rel => exact ⟨s + 1, HLT.out, Nat.le_refl _, by rw [← HWS.out], HJ2⟩
    · have c1 : decide ((s : Int) < wrap64 ((2 : Int) ^ min n 64)) = false := decide_eq_false (by rw [HPW.out]; omega)
      have HSE := Lib.hid (show s = 2 ^ n by omega)
      clear hlt hs hgg
      go_wp2
      go_end0
      exact ⟨rfl, by rw [← HSE.out]; exact HJS.out⟩


/-! ### impl_CountPattern: function 41 -/
/-- the places at which a list has a one -/
def ones : List Int → Nat → List Int
  | [], _ => []
  | x :: l, i => if x = 1 then (i : Int) :: ones l (i + 1) else ones l (i + 1)
theorem ones_length (l : List Int) : ∀ i, (ones l i).length ≤ l.length := by
  induction l with
  | nil => intro i; exact Nat.le_refl _
  | cons x l ih => intro i; rw [ones]; have := ih (i + 1); split <;> simp <;> omega
set_option maxHeartbeats 4000000 in
set_option maxRecDepth 100000 in
theorem CountPattern1_calls (k : Nat) (p q l : List Int) (hl : l.length ≤ 1000) (Ap Aq A : Option Addr) (cp cq c : Nat) (gp gq gm : Nat) (m : Int) (x : List Int) (b : Bool) (W : World)
    (hgp : W.heap[gp]? = some (.cells #[.slice Ap p.length cp] 22 (0, 0))) (hgq : W.heap[gq]? = some (.cells #[.slice Aq q.length cq] 22 (0, 0))) (hgm : W.heap[gm]? = some (.cells #[.int .i64 m] 3 (0, 0)))
    (hp : Kd.C (Kd.int .i64) W Ap p.length p) (hcp : p.length ≤ cp) (hq : Kd.C (Kd.int .i64) W Aq q.length q) (hcq : q.length ≤ cq) (hr : Kd.C (Kd.int .i64) W A l.length l) (hc : l.length ≤ c)
    (hx : impl_pattern.f k p (ones l 0) = some x) (hb : slices_Equal_int_int.f k x q = some b) :
    Calls Try.prog 77 #[.slice A l.length c, .pointer (some ⟨gp, 0, none⟩), .pointer (some ⟨gq, 0, none⟩), .pointer (some ⟨gm, 0, none⟩)] W fun e W' => e = .returned (.tuple #[]) ∧ ∃ W1, Below W.heap.size W W1 ∧ ((b = false ∧ W' = W1) ∨ (b = true ∧ W' = W1.setCell ⟨gm, 0, none⟩ (.int .i64 (wrap64 (m + 1))))) := by
  have HGP := Aside0.mk hgp
  have HGQ := Aside0.mk hgq
  have HGM := Aside0.mk hgm
  have HP := Aside0.mk hp
  have HCP := Aside0.mk hcp
  have HQ := Aside0.mk hq
  have HCQ := Aside0.mk hcq
  have HR0 := Aside0.mk hr
  have HC0 := Aside0.mk hc
  have FX := Aside0.mk hx
  have FB := Aside0.mk hb
  have HL := Lib.hid hl
  clear hgp hgq hgm hp hcp hq hcq hr hc hx hb hl
  go_enter Try.func77, Try.ntmps77
  go_wp2_with (first | ((with_reducible refine gate_dst (N := 8) rfl ?_); refine Kd.R_lit (Kd.int .i64) _ 3 ?hg (N := 8) ?hd (xs := ([] : List (Int))) (inner := []) (ok := fun _ => True) (okp := fun _ => True) ?hr ?hp (fun _ hk => hk) trivial (Below.refl _ _) (Nat.le_refl _) (by simp) ?_; (case hd => rfl); (case hg => rfl); (case hr => first | (go_simp; done) | (go_simp; rfl)); (case hp => exact (Reps.none _ _)); intro vo wo ho8 hb hg_ hnew_; clear hg_ hnew_; have HR := Aside0.mk (show Kd.R (Kd.int .i64) 3 wo W.heap.size (fun _ => True) vo [] from ho8); have HB := Aside0.mk (show Below W.heap.size W wo from hb); clear ho8 hb))
  go_loopg [5, 11] l.length (fun gg v5 v11 wi => ∃ (i : Nat) (acc : List Int), i ≤ l.length ∧ l.length - i ≤ gg ∧ v11 = .int .i64 (i : Int) ∧ Aside0 (acc ++ ones (l.drop i) i = ones l 0) ∧ Aside0 (acc.length ≤ i) ∧ Aside0 (Kd.R (Kd.int .i64) 3 wi W.heap.size (fun _ => True) v5 acc) ∧ Aside0 (Below W.heap.size W wi))
  case atStart => exact ⟨0, [], Nat.zero_le _, by omega, rfl, ⟨rfl⟩, ⟨Nat.le_refl _⟩, ⟨HR.out⟩, ⟨HB.out⟩⟩
  case round =>
    clear HR HB
    obtain ⟨i, acc, hi, hgg, rfl, HA, HAL, HR, HB⟩ := hrel
    by_cases hlt : i < l.length
    · have d1 : decide ((i : Int) < (l.length : Int)) = true := decide_eq_true (by omega)
      have p1 : 0 ≤ ((i : Nat) : Int) := by omega
      have q1 : ((i : Nat) : Int) < (l.length : Int) := by omega
      obtain ⟨ad1, e1, hx1_0⟩ := Kd.at_int HR0.out (i : Int) p1 q1
      cases e1
      obtain ⟨y, hy⟩ : ∃ y, l[i] = y := ⟨_, rfl⟩
      have hrd : rd l (i : Int) = y := by rw [← hy]; unfold rd; simp [hlt]
      rw [hrd, show ((i : Int)).toNat = i from rfl] at hx1_0
      replace hx1_0 := (HB.out.cell (World.block_lt_of_cell? W _ hx1_0)).trans hx1_0
      have ha := HA.out
      rw [List.drop_eq_getElem_cons hlt, hy, ones] at ha
      have HI := Lib.hid hlt
      have HWI := Lib.hid (show wrap64 ((i : Int) + 1) = ((i + 1 : Nat) : Int) by have := HL.out; unfold wrap64; omega)
      replace p1 := eq_true p1
      replace q1 := eq_true q1
      clear hrd hy hlt HA hi
      by_cases hy1 : y = 1
      · rw [if_pos hy1] at ha
        have d2 : (y == 1) = true := by simp [hy1]
        have HA := Aside0.mk (show (acc ++ [(i : Int)]) ++ ones (l.drop (i + 1)) (i + 1) = ones l 0 by rw [← ha, List.append_assoc]; rfl)
        clear ha hy1
        go_wp2_with (first | ((with_reducible refine gate_builtin (b := .append) (xs := #[.tmp 18, .tmp 20]) rfl ?_); at_builtin; refine Kd.R_append (Kd.int .i64) (w0 := W) W.heap.size rfl (.tmp 18) (.tmp 20) 22 3 (.int .i64 0) 8 rfl Try.underlying22 info3 rfl (by decide) (by omega) u5 acc (i : Int) [.int .i64 (i : Int)] (fun _ => True) (fun _ => False) rfl rfl ?aP (fun _ hk => hk.elim) ?aF ?aO ?aB ?aS ?aL ?_; (case aP => exact rfl); (case aB => exact (by repeat (first | (with_reducible first | exact HB.out | apply below_alloc | apply pw_below_drewN | apply below_drew1) | exact HB.out))); (case aF => exact (fun k_ hk => trivial)); (case aO => exact (by (with_reducible repeat (first | apply Kd.R_alloc | apply Kd.R_drewN | apply Kd.R_drew)); exact HR.out)); (case aS => exact (below_size (by repeat (first | (with_reducible first | exact HB.out | apply below_alloc | apply pw_below_drewN | apply below_drew1) | exact HB.out)))); (case aL => exact (by have := HL.out; have := HI.out; have := HAL.out; omega)); intro v2 w2 ho hb hg hat; clear HR HB; have HR := Aside0.mk ho; have HB := Aside0.mk hb; clear ho hb hg hat))
        go_roundg (l.length - (i + 1))
        case measure => have := HI.out; omega
        case rel => exact ⟨i + 1, acc ++ [(i : Int)], HI.out, Nat.le_refl _, by rw [← HWI.out], HA, ⟨by rw [List.length_append]; have := HAL.out; simp; omega⟩, HR, HB⟩
      · rw [if_neg hy1] at ha
        have d2 : (y == 1) = false := by simp [hy1]
        have HA := Aside0.mk ha
        clear ha hy1
        go_wp2
        go_roundg (l.length - (i + 1))
        case measure => have := HI.out; omega
        case rel => exact ⟨i + 1, acc, HI.out, Nat.le_refl _, by rw [← HWI.out], HA, ⟨by have := HAL.out; omega⟩, ⟨(by (with_reducible repeat (first | apply Kd.R_alloc | apply Kd.R_drewN | apply Kd.R_drew)); exact HR.out)⟩, ⟨(by repeat (first | (with_reducible first | exact HB.out | apply below_alloc | apply pw_below_drewN | apply below_drew1) | exact HB.out))⟩⟩
    · have d1 : decide ((i : Int) < (l.length : Int)) = false := decide_eq_false (by omega)
      obtain rfl : i = l.length := by omega
      have ha := HA.out
      rw [List.drop_length, ones, List.append_nil] at ha
      have FX2 := Aside0.mk (show impl_pattern.f k p acc = some x by rw [ha]; exact FX.out)
      obtain ⟨Ab, cb, eb⟩ := Kd.R_slice HR.out
      subst eb
      clear ha HA hlt hi FX
      have BKP := Aside0.mk (blk_below HGP.out HB.out)
      have BKQ := Aside0.mk (blk_below HGQ.out HB.out)
      have BKM := Aside0.mk (blk_below HGM.out HB.out)
      go_wp2
      have BKP2 := Aside0.mk (blk_drew BKP.out)
      have BKQ2 := Aside0.mk (blk_drew BKQ.out)
      have BKM2 := Aside0.mk (blk_drew BKM.out)
      have HR2 := Aside0.mk (Kd.R_drew HR.out)
      have HB2 := Aside0.mk (below_drew1 HB.out)
      clear BKP BKQ BKM HR HB
      refine start_ (n := 5) (S := fun w' => w'.cell? ⟨gp, 0, none⟩ = some (.slice Ap p.length cp) ∧ w'.cell? ⟨gq, 0, none⟩ = some (.slice Aq q.length cq)) (ds := []) #[false, false, false, false, false] (by kernel_rfl) rfl rfl ⟨(blk_cell BKP2.out 0).trans rfl, (blk_cell BKQ2.out 0).trans rfl⟩ (fun hHeld => ?_)
      generalize wr.drew = w1 at BKP2 BKQ2 BKM2 HR2 HB2 hHeld ⊢
      refine take_ (i := 0) (N := some 23) (v := ?_) (a' := ?_) #[true, false, false, false, false] rfl rfl (by kernel_rfl) (fun _ _ _ h => h) (Or.inl ⟨by rfl, ?_⟩) hHeld ?_ ?_
      rotate_left
      · rintro w' ⟨s0, s1⟩
        go_simp
        with_reducible rfl
      rotate_left
      · simp only [Act.put, List.setIfInBounds_toArray, List.set_cons_zero, List.set_cons_succ, i64_w, i32_w]
        rfl
      refine pure_ (i := 1) (N := some 24) (v := ?_) (a' := ?_) #[true, true, false, false, false] rfl rfl (by kernel_rfl) (fun _ _ _ h => h) (Or.inl ⟨by rfl, ?_⟩) ?_ ?_
      rotate_left
      · intro w'
        go_simp
        with_reducible rfl
      rotate_left
      · simp only [Act.put, List.setIfInBounds_toArray, List.set_cons_zero, List.set_cons_succ, i64_w, i32_w]
        rfl
      refine take_ (i := 3) (N := some 26) (v := ?_) (a' := ?_) #[true, true, false, true, false] rfl rfl (by kernel_rfl) (fun _ _ _ h => h) (Or.inl ⟨by rfl, ?_⟩) hHeld ?_ ?_
      rotate_left
      · rintro w' ⟨s0, s1⟩
        go_simp
        with_reducible rfl
      rotate_left
      · simp only [Act.put, List.setIfInBounds_toArray, List.set_cons_zero, List.set_cons_succ, i64_w, i32_w]
        rfl
      refine one_ (i := 2) (N := some 25) #[true, true, true, true, false] rfl rfl (by kernel_rfl) (by decide) (fun K hK => ?_)
      refine goes_ Try.func72 (by kernel_rfl) rfl #[.slice Ap p.length cp, .slice Ab acc.length cb] (by rfl) rfl rfl (by (try simp only [List.map_toArray, List.map_cons, List.map_nil]); first | done | rfl | (simp only [List.length_drop, List.length_take]; rfl)) ?_
      with_reducible refine (impl_pattern.calls k _ _ p _ _ acc x _ (Kd.C_below HP.out HB2.out) HCP.out (Kd.R_reads' HR2.out).2.2 (Kd.R_reads' HR2.out).2.1 FX2.out).mono ?_
      rintro e w2 ⟨v2, rfl, ho, hb⟩
      refine ⟨_, rfl, ?_⟩
      have BKP3 := Aside0.mk (blk_below BKP2.out hb)
      have BKQ3 := Aside0.mk (blk_below BKQ2.out hb)
      have BKM3 := Aside0.mk (blk_below BKM2.out hb)
      have HR3 := Aside0.mk ho
      have HB3 := Aside0.mk (below_step HB2.out hb)
      clear BKP2 BKQ2 BKM2 HR2 HB2 ho hb
      obtain ⟨Ax, cx, ex⟩ := Kd.R_slice HR3.out
      subst ex
      refine hK.out _ _ ⟨(blk_cell BKP3.out 0).trans rfl, (blk_cell BKQ3.out 0).trans rfl⟩ (fun hHeld => ?_)
      clear hK K
      refine norm_ (a' := ?_) ?_ ?_
      rotate_left
      · show Act.put _ (some 25) _ = _
        simp only [Act.put, List.setIfInBounds_toArray, List.set_cons_zero, List.set_cons_succ, i64_w, i32_w]
        rfl
      refine one_ (i := 4) (N := some 27) #[true, true, true, true, true] rfl rfl (by kernel_rfl) (by decide) (fun K hK => ?_)
      refine goes_ Try.func78 (by kernel_rfl) rfl #[.slice Ax x.length cx, .slice Aq q.length cq] (by rfl) rfl rfl (by (try simp only [List.map_toArray, List.map_cons, List.map_nil]); first | done | rfl | (simp only [List.length_drop, List.length_take]; rfl)) ?_
      with_reducible refine (slices_Equal_int_int.calls k _ _ x _ _ q b _ (Kd.R_reads' HR3.out).2.2 (Kd.R_reads' HR3.out).2.1 (Kd.C_below HQ.out HB3.out) HCQ.out FB.out).mono ?_
      rintro e w3 ⟨rfl, ⟨q', rfl⟩⟩
      refine ⟨_, rfl, ?_⟩
      refine hK.out _ _ ⟨(blk_cell (blk_drewN BKP3.out q') 0).trans rfl, (blk_cell (blk_drewN BKQ3.out q') 0).trans rfl⟩ (fun hHeld => ?_)
      clear hK K
      refine norm_ (a' := ?_) ?_ ?_
      rotate_left
      · show Act.put _ (some 27) _ = _
        simp only [Act.put, List.setIfInBounds_toArray, List.set_cons_zero, List.set_cons_succ, i64_w, i32_w]
        rfl
      refine done_ (by kernel_rfl) ?_
      have BKM4 := Aside0.mk (blk_drewN BKM3.out q')
      have HB4 := Aside0.mk (pw_below_drewN HB3.out q')
      generalize World.drewN w2 q' = w4 at BKM4 HB4 hHeld ⊢
      have hcm : w4.cell? ⟨gm, 0, none⟩ = some (.int .i64 m) := (blk_cell BKM4.out 0).trans rfl
      have hfm := blk_frozen BKM4.out 0
      cases hb0 : b with
      | true =>
        subst hb0
        go_wp2
        go_end0
        exact ⟨rfl, w4, HB4.out, rfl⟩
      | false =>
        subst hb0
        go_wp2
        go_end0
        exact ⟨rfl, HB4.out⟩
def cpTo (k : Nat) (p q : List Int) (n : Nat) : Nat → Option Int
  | 0 => some 0
  | s + 1 => (cpTo k p q n s).bind fun m => (impl_pattern.f k p (ones (bitL n s) 0)).bind fun x => (slices_Equal_int_int.f k x q).bind fun b => some (if b = true then wrap64 (m + 1) else m)
theorem cpTo_mono (k : Nat) (p q : List Int) (n : Nat) : ∀ s, LeO (cpTo k p q n s) (cpTo (k + 1) p q n s)
  | 0 => LeO.refl _
  | s + 1 => LeO.bind (cpTo_mono k p q n s) fun _ => LeO.bind (impl_pattern.mono _ _ _) fun _ => LeO.bind (slices_Equal_int_int.mono _ _ _) fun _ => LeO.refl _
theorem cpTo_at {k : Nat} {p q : List Int} {n : Nat} (N : Nat) : ∀ r, cpTo k p q n N = some r → ∀ s, s < N → ∃ m x b, cpTo k p q n s = some m ∧ impl_pattern.f k p (ones (bitL n s) 0) = some x ∧ slices_Equal_int_int.f k x q = some b ∧ cpTo k p q n (s + 1) = some (if b = true then wrap64 (m + 1) else m) := by
  induction N with
  | zero => intro r _ s hs; omega
  | succ N ih =>
    intro r h s hs
    have h0 := h
    rw [cpTo] at h
    replace h := Option.bind_eq_some_iff.mp h
    obtain ⟨m, hm, h⟩ := h
    replace h := Option.bind_eq_some_iff.mp h
    obtain ⟨x, hx, h⟩ := h
    replace h := Option.bind_eq_some_iff.mp h
    obtain ⟨b, hb, h⟩ := h
    by_cases c : s < N
    · exact ih m hm s c
    · obtain rfl : s = N := by omega
      exact ⟨m, x, b, hm, hx, hb, by rw [h0, ← h]⟩
theorem cp_step {k : Nat} {l0 l1 : List Int} {N : Nat} {A0 A1 : Option Addr} {c0 c1 gp gq gm : Nat} {w : World}
    (HS : ∀ s, s < N → ∃ m x b, cpTo k l0 l1 l0.length s = some m ∧ impl_pattern.f k l0 (ones (bitL l0.length s) 0) = some x ∧ slices_Equal_int_int.f k x l1 = some b ∧ cpTo k l0 l1 l0.length (s + 1) = some (if b = true then wrap64 (m + 1) else m))
    (hr0 : Kd.C (Kd.int .i64) w A0 l0.length l0) (hc0 : l0.length ≤ c0) (hr1 : Kd.C (Kd.int .i64) w A1 l1.length l1) (hc1 : l1.length ≤ c1) (hn : l0.length ≤ 20) (hgm : w.heap.size ≤ gm) (hpm : gp ≠ gm) (hqm : gq ≠ gm) :
    ∀ s W A c, s < N → Kd.C (Kd.int .i64) W A (bitL l0.length s).length (bitL l0.length s) → (bitL l0.length s).length ≤ c → (∃ m, cpTo k l0 l1 l0.length s = some m ∧ W.heap[gp]? = some (.cells #[.slice A0 l0.length c0] 22 (0, 0)) ∧ W.heap[gq]? = some (.cells #[.slice A1 l1.length c1] 22 (0, 0)) ∧ W.heap[gm]? = some (.cells #[.int .i64 m] 3 (0, 0)) ∧ Below w.heap.size w W) →
      Calls Try.prog 77 (#[.slice A (bitL l0.length s).length c] ++ #[.pointer (some ⟨gp, 0, none⟩), .pointer (some ⟨gq, 0, none⟩), .pointer (some ⟨gm, 0, none⟩)]) W fun e W' => e = .returned (.tuple #[]) ∧ (∃ m, cpTo k l0 l1 l0.length (s + 1) = some m ∧ W'.heap[gp]? = some (.cells #[.slice A0 l0.length c0] 22 (0, 0)) ∧ W'.heap[gq]? = some (.cells #[.slice A1 l1.length c1] 22 (0, 0)) ∧ W'.heap[gm]? = some (.cells #[.int .i64 m] 3 (0, 0)) ∧ Below w.heap.size w W') ∧ W.heap.size ≤ W'.heap.size := by
  rintro s W A c hs hr hc ⟨m, hm, hp, hq, hgmb, hB⟩
  obtain ⟨m', x, b, h1, h2, h3, h4⟩ := HS s hs
  rw [hm] at h1
  injection h1 with h1
  subst h1
  have hlen : (bitL l0.length s).length ≤ 1000 := by simp [bitL]; omega
  refine (CountPattern1_calls k l0 l1 (bitL l0.length s) hlen A0 A1 A c0 c1 c gp gq gm m x b W hp hq hgmb (Kd.C_below hr0 hB) hc0 (Kd.C_below hr1 hB) hc1 hr hc h2 h3).mono ?_
  rintro e W' ⟨rfl, W1, hb1, h⟩
  refine ⟨rfl, ?_⟩
  have hB1 := below_then hB hB.size hb1
  rcases h with ⟨rfl, rfl⟩ | ⟨rfl, rfl⟩
  · exact ⟨⟨m, by rw [h4]; rfl, blk_below hp hb1, blk_below hq hb1, blk_below hgmb hb1, hB1⟩, hb1.size⟩
  · refine ⟨⟨wrap64 (m + 1), by rw [h4]; rfl, blk_far (blk_below hp hb1) (p := ⟨gm, 0, none⟩) hpm _, blk_far (blk_below hq hb1) (p := ⟨gm, 0, none⟩) hqm _, blk_set (blk_below hgmb hb1) 0 _, below_set hB1 hgm⟩, ?_⟩
    have := hb1.size
    simpa [World.setCell] using this
def impl_CountPattern.f (k : Nat) (l0 l1 : List Int) : Option (Int × Bool) := (impl_isOrder.f k l0).bind fun t0 => if t0 = true then ((impl_isOrder.f k l1).bind fun t1 => if t1 = true then (if l0.length ≤ 20 then ((cpTo k l0 l1 l0.length (2 ^ l0.length)).bind fun m => some (m, true)) else none) else some (0, false)) else some (0, false)
theorem impl_CountPattern.mono : ∀ a0 a1 k, LeO (impl_CountPattern.f k a0 a1) (impl_CountPattern.f (k + 1) a0 a1) := by
  intro a0 a1 k
  unfold impl_CountPattern.f
  exact LeO.bind (impl_isOrder.mono _ _) fun _ => LeO.ite (LeO.bind (impl_isOrder.mono _ _) fun _ => LeO.ite (LeO.ite (LeO.bind (cpTo_mono k _ _ _ _) fun _ => LeO.refl _) (LeO.refl _)) (LeO.refl _)) (LeO.refl _)
set_option maxHeartbeats 4000000 in
set_option maxRecDepth 100000 in
theorem impl_CountPattern.calls (k : Nat) (A0 : Option Addr) (c0 : Nat) (l0 : List Int) (A1 : Option Addr) (c1 : Nat) (l1 : List Int) (r1 : Int) (r2 : Bool) (w : World) (hr0 : Kd.C (Kd.int .i64) w A0 l0.length l0) (hc0 : l0.length ≤ c0) (hr1 : Kd.C (Kd.int .i64) w A1 l1.length l1) (hc1 : l1.length ≤ c1) (h : impl_CountPattern.f k l0 l1 = some (r1, r2)) :
    Calls Try.prog 41 #[.slice A0 l0.length c0, .slice A1 l1.length c1] w fun e w' => e = .returned (.tuple #[.int .i64 r1, .bool r2]) ∧ Below w.heap.size w w' := by
  have HR0 := Aside0.mk hr0
  have HC0 := Aside0.mk hc0
  have HR1 := Aside0.mk hr1
  have HC1 := Aside0.mk hc1
  have HB := Aside0.mk (Below.refl w.heap.size w)
  have eg : ∀ args w, (callFunc 77 args).run Try.prog w = .ok (.enter 77 args) w := enters_of Try.func77 (by kernel_rfl) rfl
  have EG := Aside0.mk eg
  replace h := Option.bind_eq_some_iff.mp h
  obtain ⟨t0, ht0, h⟩ := h
  have HT0 := Aside0.mk ht0
  clear hr0 hc0 hr1 hc1 ht0 eg
  cases t0 with
  | false =>
    rw [if_neg (by simp)] at h
    simp only [Option.some.injEq, Prod.mk.injEq] at h
    obtain ⟨rfl, rfl⟩ := h
    go_enter Try.func41, Try.ntmps41
    go_wp2_with (first | ((with_reducible refine gate_dst (N := 2) rfl ?_); refine box_event ?hg (N := 2) ?hd (cs := #[.slice A0 l0.length c0]) (t := 22) ?hr ?_; (case hd => rfl); (case hg => rfl); (case hr => first | (go_simp; done) | (go_simp; rfl)); intro gp hg w2 hbox hb; have GP := Aside0.mk ((by rw [hg]; exact Nat.le_refl _) : w.heap.size ≤ gp); have n0_ := Aside0.mk (below_step HB.out hb); clear HB; have HB := n0_; clear n0_; have BKP := Aside0.mk hbox; clear hbox hb hg) | ((with_reducible refine gate_dst (N := 3) rfl ?_); refine box_event ?hg (N := 3) ?hd (cs := #[.slice A1 l1.length c1]) (t := 22) ?hr ?_; (case hd => rfl); (case hg => rfl); (case hr => first | (go_simp; done) | (go_simp; rfl)); intro gq hg w3 hbox hb; have GQ := Aside0.mk ((by rw [hg]; exact below_size HB.out) : w.heap.size ≤ gq); have n0_ := Aside0.mk (below_step HB.out hb); have n1_ := Aside0.mk (blk_below BKP.out hb); clear HB BKP; have HB := n0_; have BKP := n1_; clear n0_ n1_; have BKQ := Aside0.mk hbox; clear hbox hb hg; have hcp3 : w3.cell? ⟨gp, 0, none⟩ = some (.slice A0 l0.length c0) := (blk_cell BKP.out 0).trans rfl; have hfp3 := blk_frozen BKP.out 0; have hcq3 : w3.cell? ⟨gq, 0, none⟩ = some (.slice A1 l1.length c1) := (blk_cell BKQ.out 0).trans rfl; have hfq3 := blk_frozen BKQ.out 0) | ((with_reducible refine gate_callee (f := 70) rfl ?_); refine goesL_ (some 8) rfl rfl Try.func70 (by kernel_rfl) rfl #[.slice A0 l0.length c0] rfl (by (try simp only [List.map_toArray, List.map_cons, List.map_nil]); first | done | rfl) ?_; (with_reducible refine (impl_isOrder.calls k A0 c0 l0 _ _ (Kd.C_below HR0.out (by repeat (first | exact HB.out | apply pw_below_drewN))) HC0.out HT0.out).mono ?_); rintro e w' ⟨rfl, ⟨q', rfl⟩⟩; refine ⟨_, rfl, ?_⟩))
    go_ret2
    exact ⟨rfl, (by repeat (first | (with_reducible first | exact HB.out | apply below_alloc | apply pw_below_drewN | apply below_drew1) | exact HB.out))⟩
  | true =>
    rw [if_pos rfl] at h
    replace h := Option.bind_eq_some_iff.mp h
    obtain ⟨t1, ht1, h⟩ := h
    have HT1 := Aside0.mk ht1
    clear ht1
    cases t1 with
    | false =>
      rw [if_neg (by simp)] at h
      simp only [Option.some.injEq, Prod.mk.injEq] at h
      obtain ⟨rfl, rfl⟩ := h
      go_enter Try.func41, Try.ntmps41
      go_wp2_with (first | ((with_reducible refine gate_dst (N := 2) rfl ?_); refine box_event ?hg (N := 2) ?hd (cs := #[.slice A0 l0.length c0]) (t := 22) ?hr ?_; (case hd => rfl); (case hg => rfl); (case hr => first | (go_simp; done) | (go_simp; rfl)); intro gp hg w2 hbox hb; have GP := Aside0.mk ((by rw [hg]; exact Nat.le_refl _) : w.heap.size ≤ gp); have n0_ := Aside0.mk (below_step HB.out hb); clear HB; have HB := n0_; clear n0_; have BKP := Aside0.mk hbox; clear hbox hb hg) | ((with_reducible refine gate_dst (N := 3) rfl ?_); refine box_event ?hg (N := 3) ?hd (cs := #[.slice A1 l1.length c1]) (t := 22) ?hr ?_; (case hd => rfl); (case hg => rfl); (case hr => first | (go_simp; done) | (go_simp; rfl)); intro gq hg w3 hbox hb; have GQ := Aside0.mk ((by rw [hg]; exact below_size HB.out) : w.heap.size ≤ gq); have n0_ := Aside0.mk (below_step HB.out hb); have n1_ := Aside0.mk (blk_below BKP.out hb); clear HB BKP; have HB := n0_; have BKP := n1_; clear n0_ n1_; have BKQ := Aside0.mk hbox; clear hbox hb hg; have hcp3 : w3.cell? ⟨gp, 0, none⟩ = some (.slice A0 l0.length c0) := (blk_cell BKP.out 0).trans rfl; have hfp3 := blk_frozen BKP.out 0; have hcq3 : w3.cell? ⟨gq, 0, none⟩ = some (.slice A1 l1.length c1) := (blk_cell BKQ.out 0).trans rfl; have hfq3 := blk_frozen BKQ.out 0) | ((with_reducible refine gate_callee (f := 70) rfl ?_); refine goesL_ (some 8) rfl rfl Try.func70 (by kernel_rfl) rfl #[.slice A0 l0.length c0] rfl (by (try simp only [List.map_toArray, List.map_cons, List.map_nil]); first | done | rfl) ?_; (with_reducible refine (impl_isOrder.calls k A0 c0 l0 _ _ (Kd.C_below HR0.out (by repeat (first | exact HB.out | apply pw_below_drewN))) HC0.out HT0.out).mono ?_); rintro e w' ⟨rfl, ⟨q', rfl⟩⟩; refine ⟨_, rfl, ?_⟩) | ((with_reducible refine (impl_isOrder.calls k A1 c1 l1 _ _ ?sd1 HC1.out HT1.out).mono ?_); (case sd1 => exact (Kd.C_below HR1.out (by repeat (first | exact HB.out | apply pw_below_drewN)))); rintro e w' ⟨rfl, ⟨q'', rfl⟩⟩))
      go_ret2
      exact ⟨rfl, (by repeat (first | (with_reducible first | exact HB.out | apply below_alloc | apply pw_below_drewN | apply below_drew1) | exact HB.out))⟩
    | true =>
      rw [if_pos rfl] at h
      by_cases hn : l0.length ≤ 20
      case neg => rw [if_neg hn] at h; cases h
      rw [if_pos hn] at h
      replace h := Option.bind_eq_some_iff.mp h
      obtain ⟨m, hm, h⟩ := h
      simp only [Option.some.injEq, Prod.mk.injEq] at h
      obtain ⟨rfl, rfl⟩ := h
      have HN := Lib.hid hn
      have HS := Aside0.mk (cpTo_at _ _ hm)
      have HM := Aside0.mk hm
      clear hn hm
      go_enter Try.func41, Try.ntmps41
      go_wp2_with (first | ((with_reducible refine gate_dst (N := 2) rfl ?_); refine box_event ?hg (N := 2) ?hd (cs := #[.slice A0 l0.length c0]) (t := 22) ?hr ?_; (case hd => rfl); (case hg => rfl); (case hr => first | (go_simp; done) | (go_simp; rfl)); intro gp hg w2 hbox hb; have GP := Aside0.mk ((by rw [hg]; exact Nat.le_refl _) : w.heap.size ≤ gp); have n0_ := Aside0.mk (below_step HB.out hb); clear HB; have HB := n0_; clear n0_; have BKP := Aside0.mk hbox; clear hbox hb hg) | ((with_reducible refine gate_dst (N := 3) rfl ?_); refine box_event ?hg (N := 3) ?hd (cs := #[.slice A1 l1.length c1]) (t := 22) ?hr ?_; (case hd => rfl); (case hg => rfl); (case hr => first | (go_simp; done) | (go_simp; rfl)); intro gq hg w3 hbox hb; have GQ := Aside0.mk ((by rw [hg]; exact below_size HB.out) : w.heap.size ≤ gq); have n0_ := Aside0.mk (below_step HB.out hb); have n1_ := Aside0.mk (blk_below BKP.out hb); clear HB BKP; have HB := n0_; have BKP := n1_; clear n0_ n1_; have BKQ := Aside0.mk hbox; clear hbox hb hg; have hcp3 : w3.cell? ⟨gp, 0, none⟩ = some (.slice A0 l0.length c0) := (blk_cell BKP.out 0).trans rfl; have hfp3 := blk_frozen BKP.out 0; have hcq3 : w3.cell? ⟨gq, 0, none⟩ = some (.slice A1 l1.length c1) := (blk_cell BKQ.out 0).trans rfl; have hfq3 := blk_frozen BKQ.out 0) | ((with_reducible refine gate_callee (f := 70) rfl ?_); refine goesL_ (some 8) rfl rfl Try.func70 (by kernel_rfl) rfl #[.slice A0 l0.length c0] rfl (by (try simp only [List.map_toArray, List.map_cons, List.map_nil]); first | done | rfl) ?_; (with_reducible refine (impl_isOrder.calls k A0 c0 l0 _ _ (Kd.C_below HR0.out (by repeat (first | exact HB.out | apply pw_below_drewN))) HC0.out HT0.out).mono ?_); rintro e w' ⟨rfl, ⟨q', rfl⟩⟩; refine ⟨_, rfl, ?_⟩) | ((with_reducible refine (impl_isOrder.calls k A1 c1 l1 _ _ ?sd1 HC1.out HT1.out).mono ?_); (case sd1 => exact (Kd.C_below HR1.out (by repeat (first | exact HB.out | apply pw_below_drewN)))); rintro e w' ⟨rfl, ⟨q'', rfl⟩⟩) | ((with_reducible refine gate_dst (N := 6) rfl ?_); refine box_event ?hg (N := 6) ?hd (cs := #[.int .i64 0]) (t := 3) ?hr ?_; (case hd => rfl); (case hg => rfl); (case hr => first | (go_simp; done) | (go_simp; rfl)); intro gm hg w4 hbox hb; have GM := Aside0.mk ((by rw [hg]; exact below_size (by repeat (first | (with_reducible first | exact HB.out | apply below_alloc | apply pw_below_drewN | apply below_drew1) | exact HB.out))) : w.heap.size ≤ gm); have GMP := Aside0.mk ((by intro e_; rw [hg] at e_; have h1_ : gp < w3.heap.size := blk_lt BKP.out; have h2_ : gp = w3.heap.size := e_; omega) : gp ≠ gm); have GMQ := Aside0.mk ((by intro e_; rw [hg] at e_; have h1_ : gq < w3.heap.size := blk_lt BKQ.out; have h2_ : gq = w3.heap.size := e_; omega) : gq ≠ gm); have n0_ := Aside0.mk (below_step (by repeat (first | (with_reducible first | exact HB.out | apply below_alloc | apply pw_below_drewN | apply below_drew1) | exact HB.out)) hb); have n1_ := Aside0.mk (blk_below (by (with_reducible repeat (first | refine blk_drewN ?_ _ | refine blk_drew ?_ | refine blk_alloc ?_ _)); exact BKP.out) hb); have n2_ := Aside0.mk (blk_below (by (with_reducible repeat (first | refine blk_drewN ?_ _ | refine blk_drew ?_ | refine blk_alloc ?_ _)); exact BKQ.out) hb); clear HB BKP BKQ; have HB := n0_; have BKP := n1_; have BKQ := n2_; clear n0_ n1_ n2_; have BKM := Aside0.mk hbox; clear hbox hb hg; have hcm4 : w4.cell? ⟨gm, 0, none⟩ = some (.int .i64 0) := (blk_cell BKM.out 0).trans rfl; have hfm4 := blk_frozen BKM.out 0) | ((with_reducible refine gate_store (t := 3) (p := 6) (v := .const (.int .i64 0)) rfl ?_); refine store_event rfl (t := 3) (p := 6) (v := .const (.int .i64 0)) rfl rfl (w1 := w4.setCell ⟨gm, 0, none⟩ (.int .i64 0)) ?hr ?_; (case hr => first | (go_simp; done) | (go_simp; rfl)); intro w5 hw5; have n0_ := Aside0.mk (show Below w.heap.size w w5 by rw [hw5]; exact below_set HB.out GM.out); have n1_ := Aside0.mk (show w5.heap[gp]? = some (.cells #[.slice A0 l0.length c0] 22 (0, 0)) by rw [hw5]; exact blk_far BKP.out (p := ⟨gm, 0, none⟩) GMP.out _); have n2_ := Aside0.mk (show w5.heap[gq]? = some (.cells #[.slice A1 l1.length c1] 22 (0, 0)) by rw [hw5]; exact blk_far BKQ.out (p := ⟨gm, 0, none⟩) GMQ.out _); have n3_ := Aside0.mk (show w5.heap[gm]? = some (.cells #[.int .i64 0] 3 (0, 0)) by rw [hw5]; exact blk_set BKM.out 0 _); clear HB BKP BKQ BKM hw5; have HB := n0_; have BKP := n1_; have BKQ := n2_; have BKM := n3_; clear n0_ n1_ n2_ n3_; have hcp5 : w5.cell? ⟨gp, 0, none⟩ = some (.slice A0 l0.length c0) := (blk_cell BKP.out 0).trans rfl; have hfp5 := blk_frozen BKP.out 0) | ((with_reducible refine gate_callee (f := 76) rfl ?_); refine goesL_ (some 18) rfl rfl Try.func76 (by kernel_rfl) rfl #[.int .i64 (l0.length : Int), .func (.func 77) #[] #[.pointer (some ⟨gp, 0, none⟩), .pointer (some ⟨gq, 0, none⟩), .pointer (some ⟨gm, 0, none⟩)]] rfl (by (try simp only [List.map_toArray, List.map_cons, List.map_nil]); first | done | rfl) ?_; (with_reducible refine (bits_calls l0.length HN.out 77 #[.pointer (some ⟨gp, 0, none⟩), .pointer (some ⟨gq, 0, none⟩), .pointer (some ⟨gm, 0, none⟩)] EG.out _ (fun s W => ∃ m, cpTo k l0 l1 l0.length s = some m ∧ W.heap[gp]? = some (.cells #[.slice A0 l0.length c0] 22 (0, 0)) ∧ W.heap[gq]? = some (.cells #[.slice A1 l1.length c1] 22 (0, 0)) ∧ W.heap[gm]? = some (.cells #[.int .i64 m] 3 (0, 0)) ∧ Below w.heap.size w W) ?j1 ?j2 ?j3).mono ?_); (case j1 => exact fun s_ W_ W2_ ⟨m_, a1_, a2_, a3_, a4_, a5_⟩ hb_ => ⟨m_, a1_, blk_below a2_ hb_, blk_below a3_ hb_, blk_below a4_ hb_, below_then a5_ a5_.size hb_⟩); (case j2 => exact ⟨0, rfl, BKP.out, BKQ.out, BKM.out, HB.out⟩); (case j3 => exact cp_step HS.out HR0.out HC0.out HR1.out HC1.out HN.out GM.out GMP.out GMQ.out); rintro e w6 ⟨rfl, m6, a1_, a2_, a3_, a4_, a5_⟩; refine ⟨_, rfl, ?_⟩; have HM6 := Aside0.mk a1_; have BKM6 := Aside0.mk a4_; have HB6 := Aside0.mk a5_; clear a1_ a2_ a3_ a4_ a5_; have hcm6 : w6.cell? ⟨gm, 0, none⟩ = some (.int .i64 m6) := (blk_cell BKM6.out 0).trans rfl; have hfm6 := blk_frozen BKM6.out 0))
      have hmm : m6 = m := Option.some.inj (HM6.out.symm.trans HM.out)
      subst hmm
      go_ret2
      exact ⟨rfl, HB6.out⟩


/-! ### laws_FnExactCountPattern: function 11 -/
def laws_FnExactCountPattern.f (k : Nat) (l0 : List Int) (l1 : List Int) : Option (Bool) := if (l0.length : Int) > 1048576 then (some true) else (if (l1.length : Int) > 1048576 then (some true) else ((laws_toIntS.f k l0).bind fun t712 => ((laws_toIntS.f k l1).bind fun t715 => ((spec_CountPattern.f k t712 t715).bind fun bt718 => ((laws_toIntS.f k l0).bind fun t720 => ((laws_toIntS.f k l1).bind fun t723 => ((impl_CountPattern.f k t720 t723).bind fun bt726 => (if bt726.1 = bt718.1 then (if (bt726.2 != bt718.2) = true then (none) else ((laws_toIntS.f k l0).bind fun t728 => ((laws_eqIntS.f k t720 t728).bind fun t731 => (if t731 = true then ((laws_toIntS.f k l1).bind fun t732 => ((laws_eqIntS.f k t723 t732).bind fun t735 => (if t735 = true then (some true) else (none)))) else (none))))) else (none)))))))))
theorem laws_FnExactCountPattern.mono : ∀ a0 a1 k, LeO (laws_FnExactCountPattern.f k a0 a1) (laws_FnExactCountPattern.f (k + 1) a0 a1) := by
  intro a0 a1 k
  unfold laws_FnExactCountPattern.f
  repeat' first
      | (with_reducible exact impl_CountPattern.mono _ _ _)
      | (with_reducible exact laws_eqIntS.mono _ _ _)
      | (with_reducible exact laws_toIntS.mono _ _)
      | (with_reducible exact spec_CountPattern.mono _ _ _)
      | (with_reducible exact LeO.refl _)
      | (with_reducible exact LeO.none _)
      | (with_reducible refine LeO.ite ?_ ?_)
      | (with_reducible refine LeO.bind ?_ (fun _ => ?_))
      | exact impl_CountPattern.mono _ _ _
      | exact laws_eqIntS.mono _ _ _
      | exact laws_toIntS.mono _ _
      | exact spec_CountPattern.mono _ _ _
      | exact LeO.none _
      | refine LeO.ite ?_ ?_
      | refine LeO.bind ?_ (fun _ => ?_)
set_option maxHeartbeats 8000000 in
set_option maxRecDepth 100000 in
theorem laws_FnExactCountPattern.calls (k : Nat) (A0 : Option Addr) (c0 : Nat) (l0 : List Int) (A1 : Option Addr) (c1 : Nat) (l1 : List Int) (r : Bool) (w : World) (hr0 : Kd.C (Kd.int .i64) w A0 l0.length l0) (hc0 : l0.length ≤ c0) (hr1 : Kd.C (Kd.int .i64) w A1 l1.length l1) (hc1 : l1.length ≤ c1) (h : laws_FnExactCountPattern.f k l0 l1 = some r) :
    Calls Try.prog 11 #[.slice A0 l0.length c0, .slice A1 l1.length c1] w fun e w' => e = .returned (.bool r) ∧ Below w.heap.size w w' := by
  have HR0 := Aside0.mk hr0
  have HC0 := Aside0.mk hc0
  clear hr0 hc0
  have HR1 := Aside0.mk hr1
  have HC1 := Aside0.mk hc1
  clear hr1 hc1
  have HB := Aside0.mk (Below.refl w.heap.size w)
  have H : (if (l0.length : Int) > 1048576 then (some true) else (if (l1.length : Int) > 1048576 then (some true) else ((laws_toIntS.f k l0).bind fun t712 => ((laws_toIntS.f k l1).bind fun t715 => ((spec_CountPattern.f k t712 t715).bind fun bt718 => ((laws_toIntS.f k l0).bind fun t720 => ((laws_toIntS.f k l1).bind fun t723 => ((impl_CountPattern.f k t720 t723).bind fun bt726 => (if bt726.1 = bt718.1 then (if (bt726.2 != bt718.2) = true then (none) else ((laws_toIntS.f k l0).bind fun t728 => ((laws_eqIntS.f k t720 t728).bind fun t731 => (if t731 = true then ((laws_toIntS.f k l1).bind fun t732 => ((laws_eqIntS.f k t723 t732).bind fun t735 => (if t735 = true then (some true) else (none)))) else (none))))) else (none)))))))))) = some r := h
  clear h
  by_cases c3 : (l0.length : Int) > 1048576
  · rw [if_pos c3] at H
    have c3b0 : decide (1048576 < (l0.length : Int)) = true := decide_eq_true c3
    have c3b1 : decide (1048576 < l0.length) = true := decide_eq_true (by omega)
    clear c3
    obtain rfl := Option.some.inj H
    go_enter Try.func11, Try.ntmps11
    go_wp2
    go_ret
    exact ⟨by first | rfl | (simp [errW_none, errW_some] <;> rfl) | (simp [*, errW_none, errW_some] <;> rfl), by repeat (first | (with_reducible first | exact HB.out | apply below_alloc | apply pw_below_drewN | apply below_drew1) | exact HB.out)⟩
  · rw [if_neg c3] at H
    have c3b0 : decide (1048576 < (l0.length : Int)) = false := decide_eq_false c3
    have c3b1 : decide (1048576 < l0.length) = false := decide_eq_false (by omega)
    clear c3
    by_cases c4 : (l1.length : Int) > 1048576
    · rw [if_pos c4] at H
      have c4b0 : decide (1048576 < (l1.length : Int)) = true := decide_eq_true c4
      have c4b1 : decide (1048576 < l1.length) = true := decide_eq_true (by omega)
      clear c4
      obtain rfl := Option.some.inj H
      go_enter Try.func11, Try.ntmps11
      go_wp2
      go_ret
      exact ⟨by first | rfl | (simp [errW_none, errW_some] <;> rfl) | (simp [*, errW_none, errW_some] <;> rfl), by repeat (first | (with_reducible first | exact HB.out | apply below_alloc | apply pw_below_drewN | apply below_drew1) | exact HB.out)⟩
    · rw [if_neg c4] at H
      have c4b0 : decide (1048576 < (l1.length : Int)) = false := decide_eq_false c4
      have c4b1 : decide (1048576 < l1.length) = false := decide_eq_false (by omega)
      clear c4
      replace H := Option.bind_eq_some_iff.mp H
      obtain ⟨t712, A50, H⟩ := H
      replace H : ((laws_toIntS.f k l1).bind fun t715 => ((spec_CountPattern.f k t712 t715).bind fun bt718 => ((laws_toIntS.f k l0).bind fun t720 => ((laws_toIntS.f k l1).bind fun t723 => ((impl_CountPattern.f k t720 t723).bind fun bt726 => (if bt726.1 = bt718.1 then (if (bt726.2 != bt718.2) = true then (none) else ((laws_toIntS.f k l0).bind fun t728 => ((laws_eqIntS.f k t720 t728).bind fun t731 => (if t731 = true then ((laws_toIntS.f k l1).bind fun t732 => ((laws_eqIntS.f k t723 t732).bind fun t735 => (if t735 = true then (some true) else (none)))) else (none))))) else (none))))))) = some r := H
      have A5 := Aside0.mk A50
      clear A50
      replace H := Option.bind_eq_some_iff.mp H
      obtain ⟨t715, A60, H⟩ := H
      replace H : ((spec_CountPattern.f k t712 t715).bind fun bt718 => ((laws_toIntS.f k l0).bind fun t720 => ((laws_toIntS.f k l1).bind fun t723 => ((impl_CountPattern.f k t720 t723).bind fun bt726 => (if bt726.1 = bt718.1 then (if (bt726.2 != bt718.2) = true then (none) else ((laws_toIntS.f k l0).bind fun t728 => ((laws_eqIntS.f k t720 t728).bind fun t731 => (if t731 = true then ((laws_toIntS.f k l1).bind fun t732 => ((laws_eqIntS.f k t723 t732).bind fun t735 => (if t735 = true then (some true) else (none)))) else (none))))) else (none)))))) = some r := H
      have A6 := Aside0.mk A60
      clear A60
      replace H := Option.bind_eq_some_iff.mp H
      obtain ⟨⟨t718, t719⟩, A70, H⟩ := H
      replace H : ((laws_toIntS.f k l0).bind fun t720 => ((laws_toIntS.f k l1).bind fun t723 => ((impl_CountPattern.f k t720 t723).bind fun bt726 => (if bt726.1 = t718 then (if (bt726.2 != t719) = true then (none) else ((laws_toIntS.f k l0).bind fun t728 => ((laws_eqIntS.f k t720 t728).bind fun t731 => (if t731 = true then ((laws_toIntS.f k l1).bind fun t732 => ((laws_eqIntS.f k t723 t732).bind fun t735 => (if t735 = true then (some true) else (none)))) else (none))))) else (none))))) = some r := H
      have A7 := Aside0.mk A70
      clear A70
      replace H := Option.bind_eq_some_iff.mp H
      obtain ⟨t720, A80, H⟩ := H
      replace H : ((laws_toIntS.f k l1).bind fun t723 => ((impl_CountPattern.f k t720 t723).bind fun bt726 => (if bt726.1 = t718 then (if (bt726.2 != t719) = true then (none) else ((laws_toIntS.f k l0).bind fun t728 => ((laws_eqIntS.f k t720 t728).bind fun t731 => (if t731 = true then ((laws_toIntS.f k l1).bind fun t732 => ((laws_eqIntS.f k t723 t732).bind fun t735 => (if t735 = true then (some true) else (none)))) else (none))))) else (none)))) = some r := H
      have A8 := Aside0.mk A80
      clear A80
      replace H := Option.bind_eq_some_iff.mp H
      obtain ⟨t723, A90, H⟩ := H
      replace H : ((impl_CountPattern.f k t720 t723).bind fun bt726 => (if bt726.1 = t718 then (if (bt726.2 != t719) = true then (none) else ((laws_toIntS.f k l0).bind fun t728 => ((laws_eqIntS.f k t720 t728).bind fun t731 => (if t731 = true then ((laws_toIntS.f k l1).bind fun t732 => ((laws_eqIntS.f k t723 t732).bind fun t735 => (if t735 = true then (some true) else (none)))) else (none))))) else (none))) = some r := H
      have A9 := Aside0.mk A90
      clear A90
      replace H := Option.bind_eq_some_iff.mp H
      obtain ⟨⟨t726, t727⟩, A100, H⟩ := H
      replace H : (if t726 = t718 then (if (t727 != t719) = true then (none) else ((laws_toIntS.f k l0).bind fun t728 => ((laws_eqIntS.f k t720 t728).bind fun t731 => (if t731 = true then ((laws_toIntS.f k l1).bind fun t732 => ((laws_eqIntS.f k t723 t732).bind fun t735 => (if t735 = true then (some true) else (none)))) else (none))))) else (none)) = some r := H
      have A10 := Aside0.mk A100
      clear A100
      by_cases c11 : t726 = t718
      · rw [if_pos c11] at H
        have c11b0 : (t726 == t718) = true := beq_iff_eq.mpr c11
        have c11b1 : (t726 != t718) = false := bne_eq_false_iff_eq.mpr c11
        clear c11
        by_cases c12 : (t727 != t719) = true
        · rw [if_pos c12] at H
          exact absurd H (by simp)
        · rw [if_neg c12] at H
          have c12b0 : (t727 != t719) = false := by simpa using c12
          (try (have c12b1 : decide (t727 = t719) = true := by simpa using c12))
          (try (have c12b2 : (t727 == t719) = true := by simpa using c12))
          clear c12
          replace H := Option.bind_eq_some_iff.mp H
          obtain ⟨t728, A130, H⟩ := H
          replace H : ((laws_eqIntS.f k t720 t728).bind fun t731 => (if t731 = true then ((laws_toIntS.f k l1).bind fun t732 => ((laws_eqIntS.f k t723 t732).bind fun t735 => (if t735 = true then (some true) else (none)))) else (none))) = some r := H
          have A13 := Aside0.mk A130
          clear A130
          replace H := Option.bind_eq_some_iff.mp H
          obtain ⟨t731, A140, H⟩ := H
          replace H : (if t731 = true then ((laws_toIntS.f k l1).bind fun t732 => ((laws_eqIntS.f k t723 t732).bind fun t735 => (if t735 = true then (some true) else (none)))) else (none)) = some r := H
          have A14 := Aside0.mk A140
          clear A140
          by_cases c15 : t731 = true
          · subst c15
            have H1 : ((laws_toIntS.f k l1).bind fun t732 => ((laws_eqIntS.f k t723 t732).bind fun t735 => (if t735 = true then (some true) else (none)))) = some r := by rw [if_pos rfl] at H; exact H
            clear H
            have H := H1
            clear H1
            replace H := Option.bind_eq_some_iff.mp H
            obtain ⟨t732, A160, H⟩ := H
            replace H : ((laws_eqIntS.f k t723 t732).bind fun t735 => (if t735 = true then (some true) else (none))) = some r := H
            have A16 := Aside0.mk A160
            clear A160
            replace H := Option.bind_eq_some_iff.mp H
            obtain ⟨t735, A170, H⟩ := H
            replace H : (if t735 = true then (some true) else (none)) = some r := H
            have A17 := Aside0.mk A170
            clear A170
            by_cases c18 : t735 = true
            · subst c18
              have H1 : (some true) = some r := by rw [if_pos rfl] at H; exact H
              clear H
              have H := H1
              clear H1
              obtain rfl := Option.some.inj H
              go_enter Try.func11, Try.ntmps11
              go_wp2_with (first | ((with_reducible refine gate_callee (f := 34) rfl ?_); refine goesL_ (some 19) rfl rfl Try.func34 (by kernel_rfl) rfl #[.slice A0 l0.length c0] rfl (by (try simp only [List.map_toArray, List.map_cons, List.map_nil]); first | done | rfl | (simp only [List.length_drop, List.length_take]; rfl)) ?_; (with_reducible refine (laws_toIntS.calls k _ _ l0 t712 _ ?side1 ?side2 A5.out).mono ?_); (case side1 => repeat (first | exact HR0.out | (with_reducible refine Kd.C_alloc ?_ _) | (with_reducible refine Kd.C_drewN ?_ _) | (with_reducible refine Kd.C_drew ?_))); (case side2 => exact HC0.out); rintro e w19 ⟨v713, rfl, ho0, hb⟩; refine ⟨_, rfl, ?_⟩; have n0_ := Aside0.mk (Kd.R_lower ho0 (below_size (by repeat (first | (with_reducible first | exact HB.out | apply below_alloc | apply pw_below_drewN | apply below_drew1) | exact HB.out)))); have n1_ := Aside0.mk (below_step (by repeat (first | (with_reducible first | exact HB.out | apply below_alloc | apply pw_below_drewN | apply below_drew1) | exact HB.out)) hb); clear HB; have HO714 := n0_; have HB := n1_; clear n0_ n1_; (try clear hb); (try clear hb2); (try clear hk); (try clear hi); (try clear ho0)) | ((with_reducible refine gate_callee (f := 34) rfl ?_); refine goesL_ (some 21) rfl rfl Try.func34 (by kernel_rfl) rfl #[.slice A1 l1.length c1] rfl (by (try simp only [List.map_toArray, List.map_cons, List.map_nil]); first | done | rfl | (simp only [List.length_drop, List.length_take]; rfl)) ?_; (with_reducible refine (laws_toIntS.calls k _ _ l1 t715 _ ?side1 ?side2 A6.out).mono ?_); (case side1 => repeat (first | exact (Kd.C_below HR1.out HB.out) | (with_reducible refine Kd.C_alloc ?_ _) | (with_reducible refine Kd.C_drewN ?_ _) | (with_reducible refine Kd.C_drew ?_))); (case side2 => exact HC1.out); rintro e w20 ⟨v716, rfl, ho0, hb⟩; refine ⟨_, rfl, ?_⟩; have n0_ := Aside0.mk (Kd.R_elder' (by (with_reducible repeat (first | apply Kd.R_alloc | apply Kd.R_drewN | apply Kd.R_drew)); exact HO714.out) (Kd.R_base ho0) hb); have n1_ := Aside0.mk (Kd.R_lower (Kd.R_new' ho0 (Kd.R_lt (by (with_reducible repeat (first | apply Kd.R_alloc | apply Kd.R_drewN | apply Kd.R_drew)); exact HO714.out))) (below_size (by repeat (first | (with_reducible first | exact HB.out | apply below_alloc | apply pw_below_drewN | apply below_drew1) | exact HB.out)))); have n2_ := Aside0.mk (below_step (by repeat (first | (with_reducible first | exact HB.out | apply below_alloc | apply pw_below_drewN | apply below_drew1) | exact HB.out)) hb); clear HO714; clear HB; have HO714 := n0_; have HO717 := n1_; have HB := n2_; clear n0_ n1_ n2_; (try clear hb); (try clear hb2); (try clear hk); (try clear hi); (try clear ho0); obtain ⟨Ao21, co21, eo21⟩ := Kd.R_slice HO714.out; subst eo21; obtain ⟨Ao22, co22, eo22⟩ := Kd.R_slice HO717.out; subst eo22) | ((with_reducible refine gate_callee (f := 40) rfl ?_); refine goesL_ (some 22) rfl rfl Try.func40 (by kernel_rfl) rfl #[.slice Ao21 t712.length co21, .slice Ao22 t715.length co22] rfl (by (try simp only [List.map_toArray, List.map_cons, List.map_nil]); first | done | rfl | (simp only [List.length_drop, List.length_take]; rfl)) ?_; (with_reducible refine (spec_CountPattern.calls k _ _ t712 _ _ t715 t718 t719 _ ?side1 ?side2 ?side3 ?side4 A7.out).mono ?_); (case side1 => repeat (first | exact (Kd.R_reads' HO714.out).2.2 | (with_reducible refine Kd.C_alloc ?_ _) | (with_reducible refine Kd.C_drewN ?_ _) | (with_reducible refine Kd.C_drew ?_))); (case side2 => exact (Kd.R_reads' HO714.out).2.1); (case side3 => repeat (first | exact (Kd.R_reads' HO717.out).2.2 | (with_reducible refine Kd.C_alloc ?_ _) | (with_reducible refine Kd.C_drewN ?_ _) | (with_reducible refine Kd.C_drew ?_))); (case side4 => exact (Kd.R_reads' HO717.out).2.1); rintro e w23 ⟨rfl, hb⟩; refine ⟨_, rfl, ?_⟩; have n0_ := Aside0.mk (Kd.R_below (by (with_reducible repeat (first | apply Kd.R_alloc | apply Kd.R_drewN | apply Kd.R_drew)); exact HO714.out) hb); have n1_ := Aside0.mk (Kd.R_below (by (with_reducible repeat (first | apply Kd.R_alloc | apply Kd.R_drewN | apply Kd.R_drew)); exact HO717.out) hb); have n2_ := Aside0.mk (below_step (by repeat (first | (with_reducible first | exact HB.out | apply below_alloc | apply pw_below_drewN | apply below_drew1) | exact HB.out)) hb); clear HO714; clear HO717; clear HB; have HO714 := n0_; have HO717 := n1_; have HB := n2_; clear n0_ n1_ n2_; (try clear hb); (try clear hb2); (try clear hk); (try clear hi)) | ((with_reducible refine gate_callee (f := 34) rfl ?_); refine goesL_ (some 26) rfl rfl Try.func34 (by kernel_rfl) rfl #[.slice A0 l0.length c0] rfl (by (try simp only [List.map_toArray, List.map_cons, List.map_nil]); first | done | rfl | (simp only [List.length_drop, List.length_take]; rfl)) ?_; (with_reducible refine (laws_toIntS.calls k _ _ l0 t720 _ ?side1 ?side2 A8.out).mono ?_); (case side1 => repeat (first | exact (Kd.C_below HR0.out HB.out) | (with_reducible refine Kd.C_alloc ?_ _) | (with_reducible refine Kd.C_drewN ?_ _) | (with_reducible refine Kd.C_drew ?_))); (case side2 => exact HC0.out); rintro e w24 ⟨v721, rfl, ho0, hb⟩; refine ⟨_, rfl, ?_⟩; have n0_ := Aside0.mk (Kd.R_elder' (by (with_reducible repeat (first | apply Kd.R_alloc | apply Kd.R_drewN | apply Kd.R_drew)); exact HO714.out) (Kd.R_base ho0) hb); have n1_ := Aside0.mk (Kd.R_elder' (by (with_reducible repeat (first | apply Kd.R_alloc | apply Kd.R_drewN | apply Kd.R_drew)); exact HO717.out) (Kd.R_base ho0) hb); have n2_ := Aside0.mk (Kd.R_lower (Kd.R_new' (Kd.R_new' ho0 (Kd.R_lt (by (with_reducible repeat (first | apply Kd.R_alloc | apply Kd.R_drewN | apply Kd.R_drew)); exact HO714.out))) (Kd.R_lt (by (with_reducible repeat (first | apply Kd.R_alloc | apply Kd.R_drewN | apply Kd.R_drew)); exact HO717.out))) (below_size (by repeat (first | (with_reducible first | exact HB.out | apply below_alloc | apply pw_below_drewN | apply below_drew1) | exact HB.out)))); have n3_ := Aside0.mk (below_step (by repeat (first | (with_reducible first | exact HB.out | apply below_alloc | apply pw_below_drewN | apply below_drew1) | exact HB.out)) hb); clear HO714; clear HO717; clear HB; have HO714 := n0_; have HO717 := n1_; have HO722 := n2_; have HB := n3_; clear n0_ n1_ n2_ n3_; (try clear hb); (try clear hb2); (try clear hk); (try clear hi); (try clear ho0)) | ((with_reducible refine gate_callee (f := 34) rfl ?_); refine goesL_ (some 28) rfl rfl Try.func34 (by kernel_rfl) rfl #[.slice A1 l1.length c1] rfl (by (try simp only [List.map_toArray, List.map_cons, List.map_nil]); first | done | rfl | (simp only [List.length_drop, List.length_take]; rfl)) ?_; (with_reducible refine (laws_toIntS.calls k _ _ l1 t723 _ ?side1 ?side2 A9.out).mono ?_); (case side1 => repeat (first | exact (Kd.C_below HR1.out HB.out) | (with_reducible refine Kd.C_alloc ?_ _) | (with_reducible refine Kd.C_drewN ?_ _) | (with_reducible refine Kd.C_drew ?_))); (case side2 => exact HC1.out); rintro e w25 ⟨v724, rfl, ho0, hb⟩; refine ⟨_, rfl, ?_⟩; have n0_ := Aside0.mk (Kd.R_elder' (by (with_reducible repeat (first | apply Kd.R_alloc | apply Kd.R_drewN | apply Kd.R_drew)); exact HO714.out) (Kd.R_base ho0) hb); have n1_ := Aside0.mk (Kd.R_elder' (by (with_reducible repeat (first | apply Kd.R_alloc | apply Kd.R_drewN | apply Kd.R_drew)); exact HO717.out) (Kd.R_base ho0) hb); have n2_ := Aside0.mk (Kd.R_elder' (by (with_reducible repeat (first | apply Kd.R_alloc | apply Kd.R_drewN | apply Kd.R_drew)); exact HO722.out) (Kd.R_base ho0) hb); have n3_ := Aside0.mk (Kd.R_lower (Kd.R_new' (Kd.R_new' (Kd.R_new' ho0 (Kd.R_lt (by (with_reducible repeat (first | apply Kd.R_alloc | apply Kd.R_drewN | apply Kd.R_drew)); exact HO714.out))) (Kd.R_lt (by (with_reducible repeat (first | apply Kd.R_alloc | apply Kd.R_drewN | apply Kd.R_drew)); exact HO717.out))) (Kd.R_lt (by (with_reducible repeat (first | apply Kd.R_alloc | apply Kd.R_drewN | apply Kd.R_drew)); exact HO722.out))) (below_size (by repeat (first | (with_reducible first | exact HB.out | apply below_alloc | apply pw_below_drewN | apply below_drew1) | exact HB.out)))); have n4_ := Aside0.mk (below_step (by repeat (first | (with_reducible first | exact HB.out | apply below_alloc | apply pw_below_drewN | apply below_drew1) | exact HB.out)) hb); clear HO714; clear HO717; clear HO722; clear HB; have HO714 := n0_; have HO717 := n1_; have HO722 := n2_; have HO725 := n3_; have HB := n4_; clear n0_ n1_ n2_ n3_ n4_; (try clear hb); (try clear hb2); (try clear hk); (try clear hi); (try clear ho0); obtain ⟨Ao26, co26, eo26⟩ := Kd.R_slice HO722.out; subst eo26; obtain ⟨Ao27, co27, eo27⟩ := Kd.R_slice HO725.out; subst eo27) | ((with_reducible refine gate_callee (f := 41) rfl ?_); refine goesL_ (some 32) rfl rfl Try.func41 (by kernel_rfl) rfl #[.slice Ao26 t720.length co26, .slice Ao27 t723.length co27] rfl (by (try simp only [List.map_toArray, List.map_cons, List.map_nil]); first | done | rfl | (simp only [List.length_drop, List.length_take]; rfl)) ?_; (with_reducible refine (impl_CountPattern.calls k _ _ t720 _ _ t723 t726 t727 _ ?side1 ?side2 ?side3 ?side4 A10.out).mono ?_); (case side1 => repeat (first | exact (Kd.R_reads' HO722.out).2.2 | (with_reducible refine Kd.C_alloc ?_ _) | (with_reducible refine Kd.C_drewN ?_ _) | (with_reducible refine Kd.C_drew ?_))); (case side2 => exact (Kd.R_reads' HO722.out).2.1); (case side3 => repeat (first | exact (Kd.R_reads' HO725.out).2.2 | (with_reducible refine Kd.C_alloc ?_ _) | (with_reducible refine Kd.C_drewN ?_ _) | (with_reducible refine Kd.C_drew ?_))); (case side4 => exact (Kd.R_reads' HO725.out).2.1); rintro e w28 ⟨rfl, hb⟩; refine ⟨_, rfl, ?_⟩; have n0_ := Aside0.mk (Kd.R_below (by (with_reducible repeat (first | apply Kd.R_alloc | apply Kd.R_drewN | apply Kd.R_drew)); exact HO714.out) hb); have n1_ := Aside0.mk (Kd.R_below (by (with_reducible repeat (first | apply Kd.R_alloc | apply Kd.R_drewN | apply Kd.R_drew)); exact HO717.out) hb); have n2_ := Aside0.mk (Kd.R_below (by (with_reducible repeat (first | apply Kd.R_alloc | apply Kd.R_drewN | apply Kd.R_drew)); exact HO722.out) hb); have n3_ := Aside0.mk (Kd.R_below (by (with_reducible repeat (first | apply Kd.R_alloc | apply Kd.R_drewN | apply Kd.R_drew)); exact HO725.out) hb); have n4_ := Aside0.mk (below_step (by repeat (first | (with_reducible first | exact HB.out | apply below_alloc | apply pw_below_drewN | apply below_drew1) | exact HB.out)) hb); clear HO714; clear HO717; clear HO722; clear HO725; clear HB; have HO714 := n0_; have HO717 := n1_; have HO722 := n2_; have HO725 := n3_; have HB := n4_; clear n0_ n1_ n2_ n3_ n4_; (try clear hb); (try clear hb2); (try clear hk); (try clear hi)) | ((with_reducible refine gate_callee (f := 34) rfl ?_); refine goesL_ (some 45) rfl rfl Try.func34 (by kernel_rfl) rfl #[.slice A0 l0.length c0] rfl (by (try simp only [List.map_toArray, List.map_cons, List.map_nil]); first | done | rfl | (simp only [List.length_drop, List.length_take]; rfl)) ?_; (with_reducible refine (laws_toIntS.calls k _ _ l0 t728 _ ?side1 ?side2 A13.out).mono ?_); (case side1 => repeat (first | exact (Kd.C_below HR0.out HB.out) | (with_reducible refine Kd.C_alloc ?_ _) | (with_reducible refine Kd.C_drewN ?_ _) | (with_reducible refine Kd.C_drew ?_))); (case side2 => exact HC0.out); rintro e w29 ⟨v729, rfl, ho0, hb⟩; refine ⟨_, rfl, ?_⟩; have n0_ := Aside0.mk (Kd.R_elder' (by (with_reducible repeat (first | apply Kd.R_alloc | apply Kd.R_drewN | apply Kd.R_drew)); exact HO714.out) (Kd.R_base ho0) hb); have n1_ := Aside0.mk (Kd.R_elder' (by (with_reducible repeat (first | apply Kd.R_alloc | apply Kd.R_drewN | apply Kd.R_drew)); exact HO717.out) (Kd.R_base ho0) hb); have n2_ := Aside0.mk (Kd.R_elder' (by (with_reducible repeat (first | apply Kd.R_alloc | apply Kd.R_drewN | apply Kd.R_drew)); exact HO722.out) (Kd.R_base ho0) hb); have n3_ := Aside0.mk (Kd.R_elder' (by (with_reducible repeat (first | apply Kd.R_alloc | apply Kd.R_drewN | apply Kd.R_drew)); exact HO725.out) (Kd.R_base ho0) hb); have n4_ := Aside0.mk (Kd.R_lower (Kd.R_new' (Kd.R_new' (Kd.R_new' (Kd.R_new' ho0 (Kd.R_lt (by (with_reducible repeat (first | apply Kd.R_alloc | apply Kd.R_drewN | apply Kd.R_drew)); exact HO714.out))) (Kd.R_lt (by (with_reducible repeat (first | apply Kd.R_alloc | apply Kd.R_drewN | apply Kd.R_drew)); exact HO717.out))) (Kd.R_lt (by (with_reducible repeat (first | apply Kd.R_alloc | apply Kd.R_drewN | apply Kd.R_drew)); exact HO722.out))) (Kd.R_lt (by (with_reducible repeat (first | apply Kd.R_alloc | apply Kd.R_drewN | apply Kd.R_drew)); exact HO725.out))) (below_size (by repeat (first | (with_reducible first | exact HB.out | apply below_alloc | apply pw_below_drewN | apply below_drew1) | exact HB.out)))); have n5_ := Aside0.mk (below_step (by repeat (first | (with_reducible first | exact HB.out | apply below_alloc | apply pw_below_drewN | apply below_drew1) | exact HB.out)) hb); clear HO714; clear HO717; clear HO722; clear HO725; clear HB; have HO714 := n0_; have HO717 := n1_; have HO722 := n2_; have HO725 := n3_; have HO730 := n4_; have HB := n5_; clear n0_ n1_ n2_ n3_ n4_ n5_; (try clear hb); (try clear hb2); (try clear hk); (try clear hi); (try clear ho0); obtain ⟨Ao30, co30, eo30⟩ := Kd.R_slice HO730.out; subst eo30) | ((with_reducible refine gate_callee (f := 22) rfl ?_); refine goesL_ (some 46) rfl rfl Try.func22 (by kernel_rfl) rfl #[.slice Ao26 t720.length co26, .slice Ao30 t728.length co30] rfl (by (try simp only [List.map_toArray, List.map_cons, List.map_nil]); first | done | rfl | (simp only [List.length_drop, List.length_take]; rfl)) ?_; (with_reducible refine (laws_eqIntS.calls k _ _ t720 _ _ t728 true _ ?side1 ?side2 ?side3 ?side4 A14.out).mono ?_); (case side1 => repeat (first | exact (Kd.R_reads' HO722.out).2.2 | (with_reducible refine Kd.C_alloc ?_ _) | (with_reducible refine Kd.C_drewN ?_ _) | (with_reducible refine Kd.C_drew ?_))); (case side2 => exact (Kd.R_reads' HO722.out).2.1); (case side3 => repeat (first | exact (Kd.R_reads' HO730.out).2.2 | (with_reducible refine Kd.C_alloc ?_ _) | (with_reducible refine Kd.C_drewN ?_ _) | (with_reducible refine Kd.C_drew ?_))); (case side4 => exact (Kd.R_reads' HO730.out).2.1); rintro e w' ⟨rfl, ⟨nd, rfl⟩⟩; refine ⟨_, rfl, ?_⟩) | ((with_reducible refine gate_callee (f := 34) rfl ?_); refine goesL_ (some 50) rfl rfl Try.func34 (by kernel_rfl) rfl #[.slice A1 l1.length c1] rfl (by (try simp only [List.map_toArray, List.map_cons, List.map_nil]); first | done | rfl | (simp only [List.length_drop, List.length_take]; rfl)) ?_; (with_reducible refine (laws_toIntS.calls k _ _ l1 t732 _ ?side1 ?side2 A16.out).mono ?_); (case side1 => repeat (first | exact (Kd.C_below HR1.out (by repeat (first | (with_reducible first | exact HB.out | apply below_alloc | apply pw_below_drewN | apply below_drew1) | exact HB.out))) | (with_reducible refine Kd.C_alloc ?_ _) | (with_reducible refine Kd.C_drewN ?_ _) | (with_reducible refine Kd.C_drew ?_))); (case side2 => exact HC1.out); rintro e w31 ⟨v733, rfl, ho0, hb⟩; refine ⟨_, rfl, ?_⟩; have n0_ := Aside0.mk (Kd.R_elder' (by (with_reducible repeat (first | apply Kd.R_alloc | apply Kd.R_drewN | apply Kd.R_drew)); exact HO714.out) (Kd.R_base ho0) hb); have n1_ := Aside0.mk (Kd.R_elder' (by (with_reducible repeat (first | apply Kd.R_alloc | apply Kd.R_drewN | apply Kd.R_drew)); exact HO717.out) (Kd.R_base ho0) hb); have n2_ := Aside0.mk (Kd.R_elder' (by (with_reducible repeat (first | apply Kd.R_alloc | apply Kd.R_drewN | apply Kd.R_drew)); exact HO722.out) (Kd.R_base ho0) hb); have n3_ := Aside0.mk (Kd.R_elder' (by (with_reducible repeat (first | apply Kd.R_alloc | apply Kd.R_drewN | apply Kd.R_drew)); exact HO725.out) (Kd.R_base ho0) hb); have n4_ := Aside0.mk (Kd.R_elder' (by (with_reducible repeat (first | apply Kd.R_alloc | apply Kd.R_drewN | apply Kd.R_drew)); exact HO730.out) (Kd.R_base ho0) hb); have n5_ := Aside0.mk (Kd.R_lower (Kd.R_new' (Kd.R_new' (Kd.R_new' (Kd.R_new' (Kd.R_new' ho0 (Kd.R_lt (by (with_reducible repeat (first | apply Kd.R_alloc | apply Kd.R_drewN | apply Kd.R_drew)); exact HO714.out))) (Kd.R_lt (by (with_reducible repeat (first | apply Kd.R_alloc | apply Kd.R_drewN | apply Kd.R_drew)); exact HO717.out))) (Kd.R_lt (by (with_reducible repeat (first | apply Kd.R_alloc | apply Kd.R_drewN | apply Kd.R_drew)); exact HO722.out))) (Kd.R_lt (by (with_reducible repeat (first | apply Kd.R_alloc | apply Kd.R_drewN | apply Kd.R_drew)); exact HO725.out))) (Kd.R_lt (by (with_reducible repeat (first | apply Kd.R_alloc | apply Kd.R_drewN | apply Kd.R_drew)); exact HO730.out))) (below_size (by repeat (first | (with_reducible first | exact HB.out | apply below_alloc | apply pw_below_drewN | apply below_drew1) | exact HB.out)))); have n6_ := Aside0.mk (below_step (by repeat (first | (with_reducible first | exact HB.out | apply below_alloc | apply pw_below_drewN | apply below_drew1) | exact HB.out)) hb); clear HO714; clear HO717; clear HO722; clear HO725; clear HO730; clear HB; have HO714 := n0_; have HO717 := n1_; have HO722 := n2_; have HO725 := n3_; have HO730 := n4_; have HO734 := n5_; have HB := n6_; clear n0_ n1_ n2_ n3_ n4_ n5_ n6_; (try clear hb); (try clear hb2); (try clear hk); (try clear hi); (try clear ho0); obtain ⟨Ao32, co32, eo32⟩ := Kd.R_slice HO734.out; subst eo32) | ((with_reducible refine gate_callee (f := 22) rfl ?_); refine goesL_ (some 51) rfl rfl Try.func22 (by kernel_rfl) rfl #[.slice Ao27 t723.length co27, .slice Ao32 t732.length co32] rfl (by (try simp only [List.map_toArray, List.map_cons, List.map_nil]); first | done | rfl | (simp only [List.length_drop, List.length_take]; rfl)) ?_; (with_reducible refine (laws_eqIntS.calls k _ _ t723 _ _ t732 true _ ?side1 ?side2 ?side3 ?side4 A17.out).mono ?_); (case side1 => repeat (first | exact (Kd.R_reads' HO725.out).2.2 | (with_reducible refine Kd.C_alloc ?_ _) | (with_reducible refine Kd.C_drewN ?_ _) | (with_reducible refine Kd.C_drew ?_))); (case side2 => exact (Kd.R_reads' HO725.out).2.1); (case side3 => repeat (first | exact (Kd.R_reads' HO734.out).2.2 | (with_reducible refine Kd.C_alloc ?_ _) | (with_reducible refine Kd.C_drewN ?_ _) | (with_reducible refine Kd.C_drew ?_))); (case side4 => exact (Kd.R_reads' HO734.out).2.1); rintro e w' ⟨rfl, ⟨nd, rfl⟩⟩; refine ⟨_, rfl, ?_⟩))
              go_ret
              exact ⟨by first | rfl | (simp [errW_none, errW_some] <;> rfl) | (simp [*, errW_none, errW_some] <;> rfl), by repeat (first | (with_reducible first | exact HB.out | apply below_alloc | apply pw_below_drewN | apply below_drew1) | exact HB.out)⟩
            · replace c18 := Bool.eq_false_iff.mpr c18
              subst c18
              have H1 : (none) = some r := by rw [if_neg (show ¬ (false = true) by decide)] at H; exact H
              clear H
              have H := H1
              clear H1
              exact absurd H (by simp)
          · replace c15 := Bool.eq_false_iff.mpr c15
            subst c15
            have H1 : (none) = some r := by rw [if_neg (show ¬ (false = true) by decide)] at H; exact H
            clear H
            have H := H1
            clear H1
            exact absurd H (by simp)
      · rw [if_neg c11] at H
        exact absurd H (by simp)

/-- THE ONE PURE STATEMENT of laws_FnExactCountPattern: yours. -/
def laws_FnExactCountPattern.Pure : Prop := ∀ (l0 : List Int) (l1 : List Int), l0.length ≤ maxLen → l0.length * 8 ≤ 140737488351232 → (∀ x ∈ l0, (Lit.int .i64 x).wf = true) → l1.length ≤ maxLen → l1.length * 8 ≤ 140737488351232 → (∀ x ∈ l1, (Lit.int .i64 x).wf = true) → ∃ k, laws_FnExactCountPattern.f k l0 l1 = some true
theorem laws_FnExactCountPattern.walk (P : laws_FnExactCountPattern.Pure) (a0 : Option Addr) (len0 cap0 : Nat) (z0 : List Int) (a1 : Option Addr) (len1 cap1 : Nat) (z1 : List Int) (w : World) (w0 : (a0 = none ∧ len0 = 0 ∧ cap0 = 0 ∧ z0 = []) ∨ ∃ x, a0 = some x ∧ len0 ≤ cap0 ∧ cap0 ≤ maxLen ∧ z0.length = cap0 ∧ (∀ i, i < z0.length → w.cell? (x.add i) = some (.int .i64 (z0.getD i 0))) ∧ ∀ n ∈ z0, (Lit.int .i64 n).wf = true) (y0 : len0 * 8 ≤ 140737488351232) (w1 : (a1 = none ∧ len1 = 0 ∧ cap1 = 0 ∧ z1 = []) ∨ ∃ x, a1 = some x ∧ len1 ≤ cap1 ∧ cap1 ≤ maxLen ∧ z1.length = cap1 ∧ (∀ i, i < z1.length → w.cell? (x.add i) = some (.int .i64 (z1.getD i 0))) ∧ ∀ n ∈ z1, (Lit.int .i64 n).wf = true) (y1 : len1 * 8 ≤ 140737488351232) :
    Calls Try.prog 11 #[.slice a0 len0 cap0, .slice a1 len1 cap1] w fun e w' => e = .returned (.bool true) ∧ Below w.heap.size w w' := by
  obtain ⟨l0, rfl, hr0, hm0, hw0, hc0⟩ := ReadsInt.ofRowC w0
  obtain ⟨l1, rfl, hr1, hm1, hw1, hc1⟩ := ReadsInt.ofRowC w1
  obtain ⟨k, h⟩ := P l0 l1 hm0 y0 hw0 hm1 y1 hw1
  refine (laws_FnExactCountPattern.calls k _ _ l0 _ _ l1 true w (Kd.C_of_reads (d := (0 : Int)) (h1 := fun _ => rfl) hr0) hc0 (Kd.C_of_reads (d := (0 : Int)) (h1 := fun _ => rfl) hr1) hc1 h).mono ?_
  rintro e w' ⟨rfl, hd⟩
  exact ⟨rfl, hd⟩

end Go.Proofs.Ythpdhoplddlieaa.B
