/- The walks of functions of the given program and of its reference: each call of the machine returns what the plain Lean function of the same name says. Conditions: those in each statement. (Written by this session's program over the kit's print.) -/
import Derived.Test.YtoomhlpanjebnaaGreatWShort
import Derived.Test.YtoomhlpanjebnaaGreatB0
import Derived.Test.YtoomhlpanjebnaaGreatB1
import Derived.Test.YtoomhlpanjebnaaGreatB2
namespace Go.Proofs.YtoomhlpanjebnaaGreat.B
open Go.RowKit Go.Proofs.YtoomhlpanjebnaaGreatW.PrintWords Go.Proofs.YtoomhlpanjebnaaGreatW.PrintLast Go.Proofs.YtoomhlpanjebnaaGreatW.PrintMore
attribute [local go_sem] max2_int min2_int max_two min_two max_three min_three max_four min_four   -- for this text's walks alone
set_option linter.unusedVariables false
set_option linter.unusedSimpArgs false
set_option maxHeartbeats 8000000
set_option maxRecDepth 100000
set_option maxHeartbeats 8000000
set_option maxRecDepth 100000

/-! ### impl_IsLevel: function 19 -/
def impl_IsLevel.f (k : Nat) (a0 : Int) (l1 : List Int) : Option (Bool × Bool) := (impl_isWires.f a0).bind fun t425 => (if t425 = true then ((impl_isLevel.f k a0 l1).bind fun t426 => (some (t426, true))) else (some (false, false)))
theorem impl_IsLevel.mono : ∀ a0 a1 k, LeO (impl_IsLevel.f k a0 a1) (impl_IsLevel.f (k + 1) a0 a1) := by
 intro a0 a1 k;unfold impl_IsLevel.f;have m1 := @impl_isLevel.mono;exact mo_
theorem impl_IsLevel.calls (k : Nat) (a0 : Int) (A1 : Option Addr) (c1 : Nat) (l1 : List Int) (r1 : Bool) (r2 : Bool) (w : World) (hr1 : Kd.C (Kd.int .i64) w A1 l1.length l1) (hc1 : l1.length ≤ c1) (h : impl_IsLevel.f k a0 l1 = some (r1, r2)) :
 Calls Tryz.prog 19 #[.int .i64 a0, .slice A1 l1.length c1] w fun e w' => e = .returned (.tuple #[.bool r1, .bool r2]) ∧ Drawn0 w w' := by
 have HR1 := a_ hr1;have HC1 := a_ hc1;clear hr1 hc1;have H := h;unfold impl_IsLevel.f at H;clear h;obtain ⟨t425, A3, H⟩ := ob_ H;(try dsimp only at H);replace H := bc_ H;rcases H with ⟨rfl, H⟩ | ⟨rfl, H⟩
 ·obtain ⟨rfl, rfl⟩ := s2_ H;go_enter Tryz.func19, Tryz.ntmps19;go_wp2_with (first | ((with_reducible refine gc_ 38 ?_);refine gn_ (some 7) Tryz.func38 (impl_isWires.calls a0 false _ A3.out) rfl ?_;rintro w' ⟨nd, rfl⟩));go_ret2;exact ⟨rs_, dr_⟩
 obtain ⟨t426, A5, H⟩ := ob_ H;(try dsimp only at H);obtain ⟨rfl, rfl⟩ := s2_ H;go_enter Tryz.func19, Tryz.ntmps19;go_wp2_with (first | ((with_reducible refine gc_ 38 ?_);refine gn_ (some 7) Tryz.func38 (impl_isWires.calls a0 true _ A3.out) rfl ?_;rintro w' ⟨nd, rfl⟩) | ((with_reducible refine gate_callee (f := 41) rfl ?_); refine gm_ (some 11) Tryz.func41 #[.int .i64 a0, .slice A1 l1.length c1] rfl ?_; (with_reducible refine (impl_isLevel.calls k a0 _ _ l1 t426 _ ?side1 ?side2 A5.out).mono ?_); (case side1 => repeat (first | exact HR1.out | (with_reducible refine Kd.C_alloc ?_ _) | (with_reducible refine Kd.C_drewN ?_ _) | (with_reducible refine Kd.C_drew ?_))); (case side2 => exact HC1.out); rintro e w' ⟨rfl, ⟨nd, rfl⟩⟩; refine ⟨_, rfl, ?_⟩));go_ret2;exact ⟨rs_, dr_⟩

/-! ### laws_nHas: function 20 -/
def laws_nHas.l0 : Nat → Int → List Int → Int → Int → Option (Bool)
 | 0, _, _, _, _ => none
 | k + 1, x1, x7, x8, x9 => if x9 < x8 then (if 0 ≤ x9 then (if x9 < (x7.length : Int) then (if (rd x7 x9) = x1 then (some true) else (laws_nHas.l0 k x1 x7 x8 (wrap64 (x9 + 1)))) else (none)) else (none)) else (some false)
def laws_nHas.f (k : Nat) (l0 : List Int) (a1 : Int) : Option (Bool) := laws_nHas.l0 k a1 l0 (l0.length : Int) 0
theorem laws_nHas.mono_l : ∀ k, (∀ y0 y1 y2 y3, LeO (laws_nHas.l0 k y0 y1 y2 y3) (laws_nHas.l0 (k + 1) y0 y1 y2 y3))
 | 0 => fun _ _ _ _ r h => by simp [laws_nHas.l0] at h
 | k + 1 => by
  have ih0 := laws_nHas.mono_l k
  ·intro y0 y1 y2 y3;unfold laws_nHas.l0;exact mo_
theorem laws_nHas.mono : ∀ a0 a1 k, LeO (laws_nHas.f k a0 a1) (laws_nHas.f (k + 1) a0 a1) := by
 intro a0 a1 k;have ih0 := laws_nHas.mono_l k;unfold laws_nHas.f;exact mo_
theorem laws_nHas.calls (k : Nat) (A0 : Option Addr) (c0 : Nat) (l0 : List Int) (a1 : Int) (r : Bool) (w : World) (hr0 : Kd.C (Kd.int .i64) w A0 l0.length l0) (hc0 : l0.length ≤ c0) (h : laws_nHas.f k l0 a1 = some r) :
 Calls Tryz.prog 20 #[.slice A0 l0.length c0, .int .i64 a1] w fun e w' => e = .returned (.bool r) ∧ Drawn0 w w' := by
 have HR0 := a_ hr0;have HC0 := a_ hc0;clear hr0 hc0;have H := h;unfold laws_nHas.f at H;clear h;have H' := a_ H;clear H;go_enter Tryz.func20, Tryz.ntmps20;go_wp2;go_loopg [9] k (fun kq v9 w' => ∃ (x9_1 : Int), v9 = .int .i64 x9_1 ∧ Aside0 (laws_nHas.l0 kq a1 l0 (l0.length : Int) x9_1 = some r) ∧ Aside0 (kq ≤ k) ∧ Drawn0 w w')
 case atStart => exact ⟨(0), rs_, H', ⟨Nat.le_refl _⟩, dr_⟩
 case round =>
  clear H';obtain ⟨x9_1, rfl, HA, HK1, ⟨m1, rfl⟩⟩ := hrel
  cases gk with
  | zero => exact absurd HA.out (by simp [laws_nHas.l0])
  | succ k1 =>
   have H := HA.out;clear HA;simp only [laws_nHas.l0] at H;rcases ib_ H with ⟨c3, H⟩ | ⟨c3, H⟩
   ·have c3b0 := decide_eq_false c3;clear c3;obtain rfl := s1_ H;go_wp2;go_ret;exact ⟨rs_, dr_⟩
   have c3b0 := decide_eq_true c3;clear c3;obtain ⟨c4b0, H⟩ := ic_ H;obtain ⟨c5b0, H⟩ := ic_ H;rcases ij_ H with ⟨c6, H⟩ | ⟨c6, H⟩
   ·obtain ⟨c6b0, c6b1⟩ := qt_ c6;clear c6;obtain rfl := s1_ H;obtain ⟨ad427, e427, hx427_0, p427, q427⟩ := ai_ HR0.out x9_1
    cases e427;go_wp2;go_ret;exact ⟨rs_, dr_⟩
   obtain ⟨c6b0, c6b1⟩ := qf_ c6;have H' := a_ H;clear H;obtain ⟨ad427, e427, hx427_0, p427, q427⟩ := ai_ HR0.out x9_1
   cases e427;go_wp2;go_roundg k1
   case measure => have := HK1.out; omega
   case rel => exact ⟨(wrap64 (x9_1 + 1)), rs_, H', ⟨by have := HK1.out; omega⟩, dr_⟩

/-! ### slices_Index_int_int: function 103 -/
def slices_Index_int_int.l0 : Nat → List Int → Int → Int → Int → Option (Int)
 | 0, _, _, _, _ => none
 | k + 1, x0, x1, x7, x8 => if x8 < x7 then (if 0 ≤ x8 then (if x8 < (x0.length : Int) then (if x1 = (rd x0 x8) then (some x8) else (slices_Index_int_int.l0 k x0 x1 x7 (wrap64 (x8 + 1)))) else (none)) else (none)) else (some (-1))
def slices_Index_int_int.f (k : Nat) (l0 : List Int) (a1 : Int) : Option (Int) := slices_Index_int_int.l0 k l0 a1 (l0.length : Int) 0
theorem slices_Index_int_int.mono_l : ∀ k, (∀ y0 y1 y2 y3, LeO (slices_Index_int_int.l0 k y0 y1 y2 y3) (slices_Index_int_int.l0 (k + 1) y0 y1 y2 y3))
 | 0 => fun _ _ _ _ r h => by simp [slices_Index_int_int.l0] at h
 | k + 1 => by
  have ih0 := slices_Index_int_int.mono_l k
  ·intro y0 y1 y2 y3;unfold slices_Index_int_int.l0;exact mo_
theorem slices_Index_int_int.mono : ∀ a0 a1 k, LeO (slices_Index_int_int.f k a0 a1) (slices_Index_int_int.f (k + 1) a0 a1) := by
 intro a0 a1 k;have ih0 := slices_Index_int_int.mono_l k;unfold slices_Index_int_int.f;exact mo_
theorem slices_Index_int_int.calls (k : Nat) (A0 : Option Addr) (c0 : Nat) (l0 : List Int) (a1 : Int) (r : Int) (w : World) (hr0 : Kd.C (Kd.int .i64) w A0 l0.length l0) (hc0 : l0.length ≤ c0) (h : slices_Index_int_int.f k l0 a1 = some r) :
 Calls Tryz.prog 103 #[.slice A0 l0.length c0, .int .i64 a1] w fun e w' => e = .returned (.int .i64 r) ∧ Drawn0 w w' := by
 have HR0 := a_ hr0;have HC0 := a_ hc0;clear hr0 hc0;have H := h;unfold slices_Index_int_int.f at H;clear h;have H' := a_ H;clear H;go_enter Tryz.func103, Tryz.ntmps103;go_wp2;go_loopg [8] k (fun kq v8 w' => ∃ (x8_1 : Int), v8 = .int .i64 x8_1 ∧ Aside0 (slices_Index_int_int.l0 kq l0 a1 (l0.length : Int) x8_1 = some r) ∧ Aside0 (kq ≤ k) ∧ Drawn0 w w')
 case atStart => exact ⟨(0), rs_, H', ⟨Nat.le_refl _⟩, dr_⟩
 case round =>
  clear H';obtain ⟨x8_1, rfl, HA, HK1, ⟨m1, rfl⟩⟩ := hrel
  cases gk with
  | zero => exact absurd HA.out (by simp [slices_Index_int_int.l0])
  | succ k1 =>
   have H := HA.out;clear HA;simp only [slices_Index_int_int.l0] at H;rcases ib_ H with ⟨c3, H⟩ | ⟨c3, H⟩
   ·have c3b0 := decide_eq_false c3;clear c3;obtain rfl := s1_ H;go_wp2;go_ret;exact ⟨rs_, dr_⟩
   have c3b0 := decide_eq_true c3;clear c3;obtain ⟨c4b0, H⟩ := ic_ H;obtain ⟨c5b0, H⟩ := ic_ H;rcases ij_ H with ⟨c6, H⟩ | ⟨c6, H⟩
   ·obtain ⟨c6b0, c6b1⟩ := qt_ c6;clear c6;obtain rfl := s1_ H;obtain ⟨ad428, e428, hx428_0, p428, q428⟩ := ai_ HR0.out x8_1
    cases e428;go_wp2;go_ret;exact ⟨rs_, dr_⟩
   obtain ⟨c6b0, c6b1⟩ := qf_ c6;have H' := a_ H;clear H;obtain ⟨ad428, e428, hx428_0, p428, q428⟩ := ai_ HR0.out x8_1
   cases e428;go_wp2;go_roundg k1
   case measure => have := HK1.out; omega
   case rel => exact ⟨(wrap64 (x8_1 + 1)), rs_, H', ⟨by have := HK1.out; omega⟩, dr_⟩

/-! ### slices_Contains_int_int: function 91 -/
def slices_Contains_int_int.f (k : Nat) (l0 : List Int) (a1 : Int) : Option (Bool) := (slices_Index_int_int.f k l0 a1).bind fun t429 => (some (decide (t429 ≥ 0)))
theorem slices_Contains_int_int.mono : ∀ a0 a1 k, LeO (slices_Contains_int_int.f k a0 a1) (slices_Contains_int_int.f (k + 1) a0 a1) := by
 intro a0 a1 k;unfold slices_Contains_int_int.f;have m1 := @slices_Index_int_int.mono;exact mo_
theorem slices_Contains_int_int.calls (k : Nat) (A0 : Option Addr) (c0 : Nat) (l0 : List Int) (a1 : Int) (r : Bool) (w : World) (hr0 : Kd.C (Kd.int .i64) w A0 l0.length l0) (hc0 : l0.length ≤ c0) (h : slices_Contains_int_int.f k l0 a1 = some r) :
 Calls Tryz.prog 91 #[.slice A0 l0.length c0, .int .i64 a1] w fun e w' => e = .returned (.bool r) ∧ Drawn0 w w' := by
 have HR0 := a_ hr0;have HC0 := a_ hc0;clear hr0 hc0;have H := h;unfold slices_Contains_int_int.f at H;clear h;obtain ⟨t429, A3, H⟩ := ob_ H;(try dsimp only at H);obtain rfl := s1_ H;go_enter Tryz.func91, Tryz.ntmps91;go_wp2_with (first | ((with_reducible refine gate_callee (f := 103) rfl ?_); refine gm_ (some 7) Tryz.func103 #[.slice A0 l0.length c0, .int .i64 a1] rfl ?_; (with_reducible refine (slices_Index_int_int.calls k _ _ l0 a1 t429 _ ?side1 ?side2 A3.out).mono ?_); (case side1 => repeat (first | exact HR0.out | (with_reducible refine Kd.C_alloc ?_ _) | (with_reducible refine Kd.C_drewN ?_ _) | (with_reducible refine Kd.C_drew ?_))); (case side2 => exact HC0.out); rintro e w' ⟨rfl, ⟨nd, rfl⟩⟩; refine ⟨_, rfl, ?_⟩));go_ret;exact ⟨rs_, dr_⟩

/-! ### impl_isOrder: function 62 -/
def impl_isOrder.l0 : Nat → List Int → List Int → Int → Int → Option (Bool)
 | 0, _, _, _, _ => none
 | k + 1, x0, x9, x10, x11 => if x11 < x10 then (if 0 ≤ x11 then (if x11 < (x9.length : Int) then ((impl_between.f (rd x9 x11) 0 (wrap64 ((x0.length : Int) - 1))).bind fun t432 => (if t432 = true then (if x11 ≤ (x0.length : Int) then ((slices_Contains_int_int.f k (x0.take (x11 : Int).toNat) (rd x9 x11)).bind fun t434 => (if t434 = true then (some false) else (impl_isOrder.l0 k x0 x9 x10 (wrap64 (x11 + 1))))) else (none)) else (some false))) else (none)) else (none)) else (some true)
def impl_isOrder.f (k : Nat) (l0 : List Int) : Option (Bool) := (impl_between.f (l0.length : Int) 1 8).bind fun t430 => (if t430 = true then (impl_isOrder.l0 k l0 l0 (l0.length : Int) 0) else (some false))
theorem impl_isOrder.mono_l : ∀ k, (∀ y0 y1 y2 y3, LeO (impl_isOrder.l0 k y0 y1 y2 y3) (impl_isOrder.l0 (k + 1) y0 y1 y2 y3))
 | 0 => fun _ _ _ _ r h => by simp [impl_isOrder.l0] at h
 | k + 1 => by
  have ih0 := impl_isOrder.mono_l k
  ·intro y0 y1 y2 y3;unfold impl_isOrder.l0;have m1 := @slices_Contains_int_int.mono;exact mo_
theorem impl_isOrder.mono : ∀ a0 k, LeO (impl_isOrder.f k a0) (impl_isOrder.f (k + 1) a0) := by
 intro a0 k;have ih0 := impl_isOrder.mono_l k;unfold impl_isOrder.f;exact mo_
theorem impl_isOrder.calls (k : Nat) (A0 : Option Addr) (c0 : Nat) (l0 : List Int) (r : Bool) (w : World) (hr0 : Kd.C (Kd.int .i64) w A0 l0.length l0) (hc0 : l0.length ≤ c0) (h : impl_isOrder.f k l0 = some r) :
 Calls Tryz.prog 62 #[.slice A0 l0.length c0] w fun e w' => e = .returned (.bool r) ∧ Drawn0 w w' := by
 have HR0 := a_ hr0;have HC0 := a_ hc0;clear hr0 hc0;have H := h;unfold impl_isOrder.f at H;clear h;obtain ⟨t430, A2, H⟩ := ob_ H;(try dsimp only at H);replace H := bc_ H;rcases H with ⟨rfl, H⟩ | ⟨rfl, H⟩
 ·obtain rfl := s1_ H;go_enter Tryz.func62, Tryz.ntmps62;go_wp2_with (first | ((with_reducible refine gc_ 67 ?_);refine gn_ (some 7) Tryz.func67 (impl_between.calls (l0.length : Int) 1 8 false _ A2.out) rfl ?_;rintro w' ⟨nd, rfl⟩));go_ret;exact ⟨rs_, dr_⟩
 have H' := a_ H;clear H;go_enter Tryz.func62, Tryz.ntmps62;go_wp2_with (first | ((with_reducible refine gc_ 67 ?_);refine gn_ (some 7) Tryz.func67 (impl_between.calls (l0.length : Int) 1 8 true _ A2.out) rfl ?_;rintro w' ⟨nd, rfl⟩));go_loopg [11] k (fun kq v11 w' => ∃ (x11_1 : Int), v11 = .int .i64 x11_1 ∧ Aside0 (impl_isOrder.l0 kq l0 l0 (l0.length : Int) x11_1 = some r) ∧ Aside0 (kq ≤ k) ∧ Drawn0 w w')
 case atStart => exact ⟨(0), rs_, H', ⟨Nat.le_refl _⟩, dr_⟩
 case round =>
  clear H';(try clear c3);obtain ⟨x11_1, rfl, HA, HK1, ⟨m1, rfl⟩⟩ := hrel
  cases gk with
  | zero => exact absurd HA.out (by simp [impl_isOrder.l0])
  | succ k1 =>
   have H := HA.out;clear HA;simp only [impl_isOrder.l0] at H;rcases ib_ H with ⟨c4, H⟩ | ⟨c4, H⟩
   ·have c4b0 := decide_eq_false c4;clear c4;obtain rfl := s1_ H;go_wp2;go_ret;exact ⟨rs_, dr_⟩
   have c4b0 := decide_eq_true c4;clear c4;obtain ⟨c5b0, H⟩ := ic_ H;obtain ⟨c6b0, H⟩ := ic_ H;obtain ⟨t432, A7, H⟩ := ob_ H;(try dsimp only at H);replace H := bc_ H;rcases H with ⟨rfl, H⟩ | ⟨rfl, H⟩
   ·obtain rfl := s1_ H;obtain ⟨ad431, e431, hx431_0, p431, q431⟩ := ai_ HR0.out x11_1
    cases e431;go_wp2_with (first | ((with_reducible refine gc_ 67 ?_);refine gn_ (some 20) Tryz.func67 (impl_between.calls (rd l0 x11_1) 0 (wrap64 ((l0.length : Int) - 1)) false _ A7.out) rfl ?_;rintro w' ⟨nd, rfl⟩));go_ret;exact ⟨rs_, dr_⟩
   have c9b0 := eq_true (od_ : 0 ≤ x11_1);obtain ⟨c10, H⟩ := in_ H;have c10b0 := eq_true c10;have c10b1 : decide (x11_1 ≤ (l0.length : Int)) = true := decide_eq_true c10;clear c10;obtain ⟨t434, A11, H⟩ := ob_ H;(try dsimp only at H);replace H := bd_ H;rcases H with ⟨rfl, H⟩ | ⟨rfl, H⟩
   ·obtain rfl := s1_ H;obtain ⟨ad431, e431, hx431_0, p431, q431⟩ := ai_ HR0.out x11_1
    cases e431;go_wp2_with (first | ((with_reducible refine gc_ 67 ?_);refine gn_ (some 20) Tryz.func67 (impl_between.calls (rd l0 x11_1) 0 (wrap64 ((l0.length : Int) - 1)) true _ A7.out) rfl ?_;rintro w' ⟨nd, rfl⟩; obtain ⟨i013, hi013, _, hsz13, _⟩ := info_parts info3; obtain ⟨hcut13, hA13, hC13⟩ := print_take_of (P := Tryz.prog) (Value.int .i64) 0 24 3 .i64 Tryz.underlying24 hi013 hsz13 (some ad431) c0 l0 x11_1 (od_) (od_) HC0.out; have HR433 := a_ (Kd.C_of_reads (h1 := fun _ => rfl) (hA13 _ (Kd.reads_of_C HR0.out))); have HC433 := a_ hC13; clear hA13 hC13 hi013 hsz13) | (go_at_call 91; refine calls_of_args (args' := #[.slice (some ad431) (l0.take (x11_1 : Int).toNat).length c0, .int .i64 (rd l0 x11_1)]) (by first | rfl | rw [show (l0.take (x11_1 : Int).toNat).length = (x11_1 : Int).toNat from by rw [List.length_take]; have h1_ : x11_1 ≤ (l0.length : Int) := of_decide_eq_true (by assumption); omega]) ?_; (with_reducible refine (slices_Contains_int_int.calls k1 _ _ (l0.take (x11_1 : Int).toNat) (rd l0 x11_1) true _ ?side1 ?side2 A11.out).mono ?_); (case side1 => repeat (first | exact HR433.out | (with_reducible refine Kd.C_alloc ?_ _) | (with_reducible refine Kd.C_drewN ?_ _) | (with_reducible refine Kd.C_drew ?_))); (case side2 => exact HC433.out); rintro e w' ⟨rfl, ⟨nd, rfl⟩⟩));go_ret;exact ⟨rs_, dr_⟩
   have H' := a_ H;clear H;obtain ⟨ad431, e431, hx431_0, p431, q431⟩ := ai_ HR0.out x11_1
   cases e431;go_wp2_with (first | ((with_reducible refine gc_ 67 ?_);refine gn_ (some 20) Tryz.func67 (impl_between.calls (rd l0 x11_1) 0 (wrap64 ((l0.length : Int) - 1)) true _ A7.out) rfl ?_;rintro w' ⟨nd, rfl⟩; obtain ⟨i014, hi014, _, hsz14, _⟩ := info_parts info3; obtain ⟨hcut14, hA14, hC14⟩ := print_take_of (P := Tryz.prog) (Value.int .i64) 0 24 3 .i64 Tryz.underlying24 hi014 hsz14 (some ad431) c0 l0 x11_1 (od_) (od_) HC0.out; have HR433 := a_ (Kd.C_of_reads (h1 := fun _ => rfl) (hA14 _ (Kd.reads_of_C HR0.out))); have HC433 := a_ hC14; clear hA14 hC14 hi014 hsz14) | (go_at_call 91; refine calls_of_args (args' := #[.slice (some ad431) (l0.take (x11_1 : Int).toNat).length c0, .int .i64 (rd l0 x11_1)]) (by first | rfl | rw [show (l0.take (x11_1 : Int).toNat).length = (x11_1 : Int).toNat from by rw [List.length_take]; have h1_ : x11_1 ≤ (l0.length : Int) := of_decide_eq_true (by assumption); omega]) ?_; (with_reducible refine (slices_Contains_int_int.calls k1 _ _ (l0.take (x11_1 : Int).toNat) (rd l0 x11_1) false _ ?side1 ?side2 A11.out).mono ?_); (case side1 => repeat (first | exact HR433.out | (with_reducible refine Kd.C_alloc ?_ _) | (with_reducible refine Kd.C_drewN ?_ _) | (with_reducible refine Kd.C_drew ?_))); (case side2 => exact HC433.out); rintro e w' ⟨rfl, ⟨nd, rfl⟩⟩));go_roundg k1
   case measure => have := HK1.out; omega
   case rel => exact ⟨(wrap64 (x11_1 + 1)), rs_, H', ⟨by have := HK1.out; omega⟩, dr_⟩

/-! ### impl_isMade: function 46 -/
def impl_isMade.f (k : Nat) (l0 : List Int) : Option (Bool) := (impl_isOrder.f k l0).bind fun t435 => (if t435 = true then ((impl_between.f (l0.length : Int) 2 6).bind fun t436 => (some t436)) else (some false))
theorem impl_isMade.mono : ∀ a0 k, LeO (impl_isMade.f k a0) (impl_isMade.f (k + 1) a0) := by
 intro a0 k;unfold impl_isMade.f;have m1 := @impl_isOrder.mono;exact mo_
theorem impl_isMade.calls (k : Nat) (A0 : Option Addr) (c0 : Nat) (l0 : List Int) (r : Bool) (w : World) (hr0 : Kd.C (Kd.int .i64) w A0 l0.length l0) (hc0 : l0.length ≤ c0) (h : impl_isMade.f k l0 = some r) :
 Calls Tryz.prog 46 #[.slice A0 l0.length c0] w fun e w' => e = .returned (.bool r) ∧ Drawn0 w w' := by
 have HR0 := a_ hr0;have HC0 := a_ hc0;clear hr0 hc0;have H := h;unfold impl_isMade.f at H;clear h;obtain ⟨t435, A2, H⟩ := ob_ H;(try dsimp only at H);replace H := bc_ H;rcases H with ⟨rfl, H⟩ | ⟨rfl, H⟩
 ·obtain rfl := s1_ H;go_enter Tryz.func46, Tryz.ntmps46;go_wp2_with (first | ((with_reducible refine gate_callee (f := 62) rfl ?_); refine gm_ (some 4) Tryz.func62 #[.slice A0 l0.length c0] rfl ?_; (with_reducible refine (impl_isOrder.calls k _ _ l0 false _ ?side1 ?side2 A2.out).mono ?_); (case side1 => repeat (first | exact HR0.out | (with_reducible refine Kd.C_alloc ?_ _) | (with_reducible refine Kd.C_drewN ?_ _) | (with_reducible refine Kd.C_drew ?_))); (case side2 => exact HC0.out); rintro e w' ⟨rfl, ⟨nd, rfl⟩⟩; refine ⟨_, rfl, ?_⟩));go_ret;exact ⟨rs_, dr_⟩
 obtain ⟨t436, A4, H⟩ := ob_ H;(try dsimp only at H);obtain rfl := s1_ H;go_enter Tryz.func46, Tryz.ntmps46;go_wp2_with (first | ((with_reducible refine gate_callee (f := 62) rfl ?_); refine gm_ (some 4) Tryz.func62 #[.slice A0 l0.length c0] rfl ?_; (with_reducible refine (impl_isOrder.calls k _ _ l0 true _ ?side1 ?side2 A2.out).mono ?_); (case side1 => repeat (first | exact HR0.out | (with_reducible refine Kd.C_alloc ?_ _) | (with_reducible refine Kd.C_drewN ?_ _) | (with_reducible refine Kd.C_drew ?_))); (case side2 => exact HC0.out); rintro e w' ⟨rfl, ⟨nd, rfl⟩⟩; refine ⟨_, rfl, ?_⟩) | (go_at_call 67; (with_reducible refine (impl_between.calls (l0.length : Int) 2 6 t436 _ A4.out).mono ?_); rintro e w' ⟨rfl, ⟨nd, rfl⟩⟩));go_ret;exact ⟨rs_, dr_⟩

/-! ### impl_orderKey: function 48 -/
def impl_orderKey.l0 : Nat → List Int → List Int → Int → Int → Option (ByteArray)
 | 0, _, _, _, _ => none
 | k + 1, x3, x7, x8, x9 => if x9 < x8 then (if 0 ≤ x9 then (if x9 < (x7.length : Int) then (if x3.length < 140737488355328 then (impl_orderKey.l0 k (x3 ++ [(wrap64 (48 + (rd x7 x9))) % 256]) x7 x8 (wrap64 (x9 + 1))) else (none)) else (none)) else (none)) else (some (strOfNums x3))
def impl_orderKey.f (k : Nat) (l0 : List Int) : Option (ByteArray) := impl_orderKey.l0 k (([] : List Int)) l0 (l0.length : Int) 0
theorem impl_orderKey.mono_l : ∀ k, (∀ y0 y1 y2 y3, LeO (impl_orderKey.l0 k y0 y1 y2 y3) (impl_orderKey.l0 (k + 1) y0 y1 y2 y3))
 | 0 => fun _ _ _ _ r h => by simp [impl_orderKey.l0] at h
 | k + 1 => by
  have ih0 := impl_orderKey.mono_l k
  ·intro y0 y1 y2 y3;unfold impl_orderKey.l0;exact mo_
theorem impl_orderKey.mono : ∀ a0 k, LeO (impl_orderKey.f k a0) (impl_orderKey.f (k + 1) a0) := by
 intro a0 k;have ih0 := impl_orderKey.mono_l k;unfold impl_orderKey.f;exact mo_
theorem impl_orderKey.calls (k : Nat) (A0 : Option Addr) (c0 : Nat) (l0 : List Int) (r : ByteArray) (w : World) (hr0 : Kd.C (Kd.int .i64) w A0 l0.length l0) (hc0 : l0.length ≤ c0) (h : impl_orderKey.f k l0 = some r) :
 Calls Tryz.prog 48 #[.slice A0 l0.length c0] w fun e w' => e = .returned (.string r) ∧ Below w.heap.size w w' := by
 have HR0 := a_ hr0;have HC0 := a_ hc0;clear hr0 hc0;have HB := a_ (Below.refl w.heap.size w);have H := h;unfold impl_orderKey.f at H;clear h;generalize hy_ : (([] : List Int)) = y437 at H;have Ny437 := a_ hy_.symm;clear hy_;have H' := a_ H;clear H;go_enter Tryz.func48, Tryz.ntmps48;go_wp2_with (first | ((with_reducible refine gate_dst (N := 6) rfl ?_); refine Kd.R_lit (Kd.int .u8) _ 5 ?hg (N := 6) ?hd (xs := ([] : List Int)) (inner := []) (ok := fun _ => True) (okp := fun _ => True) ?hr ?hp (fun _ hk => hk) trivial (Below.refl _ _) (Nat.le_refl _) (by simp) ?_; (case hd => rfl); (case hg => rfl); (case hr => first | (go_simp; done) | (go_simp; rfl)); (case hp => exact (Reps.none _ _)); intro v438 w2 ho3 hb hg_ hnew_; clear hg_ hnew_; (first | rw [← Ny437.out] at ho3 | (simp only [Int.reduceToNat] at ho3; rw [← Ny437.out] at ho3)); have HO439 := a_ (Kd.R_lower ho3 (below_size (Bl_ HB))); replace HB := Bs_ HB hb; clear hb ho3));go_loopg [3, 9] k (fun kq v3 v9 w' => ∃ (x3_1 : List Int) (x9_1 : Int), v9 = .int .i64 x9_1 ∧ Aside0 (impl_orderKey.l0 kq x3_1 l0 (l0.length : Int) x9_1 = some r) ∧ Aside0 (kq ≤ k) ∧ Aside0 (Kd.R (Kd.int .u8) 5 w' w.heap.size (fun _ => True) v3 x3_1) ∧ Aside0 (Below w.heap.size w w'))
 case atStart => exact ⟨(y437), (0), rs_, H', ⟨Nat.le_refl _⟩, ⟨Rl_ HO439.out⟩, ⟨Bl_ HB⟩⟩
 case round =>
  clear H';obtain ⟨x3_1, x9_1, rfl, HA, HK1, HO_3, HB⟩ := hrel
  cases gk with
  | zero => exact absurd HA.out (by simp [impl_orderKey.l0])
  | succ k1 =>
   have H := HA.out;clear HA;simp only [impl_orderKey.l0] at H;rcases ib_ H with ⟨c4, H⟩ | ⟨c4, H⟩
   ·have c4b0 := decide_eq_false c4;clear c4;obtain rfl := s1_ H;have hcv9 := own_string (P := Tryz.prog) Tryz.underlying22 Tryz.underlying5 Tryz.underlying9 (Kd.own_of_R HO_3.out);go_wp2;go_ret;exact ⟨re_, Bl_ HB⟩
   have c4b0 := decide_eq_true c4;clear c4;obtain ⟨c5b0, H⟩ := ic_ H;obtain ⟨c6b0, H⟩ := ic_ H;obtain ⟨LMc7, H⟩ := ia_ H;generalize hy_ : (x3_1 ++ [(wrap64 (48 + (rd l0 x9_1))) % 256]) = y441 at H;have Ny441 := a_ hy_.symm;clear hy_;have H' := a_ H;clear H;obtain ⟨ad440, e440, hx440_0, p440, q440⟩ := ah_ HR0 HB x9_1
   cases e440;go_wp2_with (first | ((with_reducible refine gate_builtin (b := .append) (xs := #[.tmp 13, .tmp 17]) rfl ?_); at_builtin; refine Kd.R_append (Kd.int .u8) (w0 := w) w.heap.size rfl (.tmp 13) (.tmp 17) 22 5 (.int .u8 0) 1 rfl Tryz.underlying22 info5 rfl (by decide) (by omega) u3 x3_1 ((wrap64 (48 + (rd l0 x9_1))) % 256) [.int .u8 ((wrap64 (48 + (rd l0 x9_1))) % 256)] (fun _ => True) (fun _ => False) rfl rfl ?aP (fun _ hk => hk.elim) ?aF ?aO ?aB ?aS ?aL ?_; (case aP => exact rfl); (case aB => exact (Bl_ HB)); (case aF => exact (fun _ _ => trivial)); (case aO => exact (Rl_ HO_3.out)); (case aS => exact (below_size (Bl_ HB))); (case aL => have := LMc7.out; omega); intro v442 w8 ho hb hg hat; rw [← Ny441.out] at ho; replace HB := a_ (hb); have HO443 := a_ (ho); clear HO_3; clear ho hb hg hat));go_roundg k1
   case measure => have := HK1.out; omega
   case rel => exact ⟨(y441), (wrap64 (x9_1 + 1)), rs_, H', ⟨by have := HK1.out; omega⟩, ⟨Rl_ HO443.out⟩, ⟨Bl_ HB⟩⟩

/-! ### impl_allLevels: function 50 -/
/-- all levels that begin with the rungs done, from a place on (f: depth enough) -/
def lvl (n1 : Nat) : Nat → Nat → List Int → List (List Int)
  | 0, _, done => [done]
  | f + 1, fr, done => done :: (List.range' fr (n1 - fr)).flatMap fun q => lvl n1 f (q + 2) (done ++ [(q : Int)])
def lvlTo (n1 : Nat) : Nat → Nat → List Int → Nat → List (List Int)
  | 0, _, done, _ => [done]
  | f + 1, fr, done, r => done :: (List.range' fr (r - fr)).flatMap fun q => lvl n1 f (q + 2) (done ++ [(q : Int)])
theorem lvlTo_start (n1 f fr : Nat) (done : List Int) : lvlTo n1 f fr done fr = [done] := by cases f <;> simp [lvlTo]
theorem lvlTo_end (n1 f fr : Nat) (done : List Int) (r : Nat) (h : r = max fr n1) : lvlTo n1 f fr done r = lvl n1 f fr done := by
  cases f with
  | zero => rfl
  | succ f => have : r - fr = n1 - fr := by omega
              simp [lvlTo, lvl, this]
theorem lvlTo_succ (n1 f fr : Nat) (done : List Int) (r : Nat) (h : fr ≤ r) : lvlTo n1 (f + 1) fr done (r + 1) = lvlTo n1 (f + 1) fr done r ++ lvl n1 f (r + 2) (done ++ [(r : Int)]) := by
  have e : r + 1 - fr = (r - fr) + 1 := by omega
  have e2 : fr + (r - fr) = r := by omega
  simp [lvlTo, e, List.range'_concat, e2]
theorem lvlTo_le (n1 f fr : Nat) (done : List Int) (r : Nat) (h : r ≤ max fr n1) : (lvlTo n1 f fr done r).length ≤ (lvl n1 f fr done).length := by
  cases f with
  | zero => simp [lvlTo, lvl]
  | succ f =>
    have e : n1 - fr = (r - fr) + (n1 - fr - (r - fr)) := by omega
    simp only [lvlTo, lvl, List.length_cons]
    rw [e, ← List.range'_append_1, List.flatMap_append, List.length_append]
    omega
theorem allLevels_gen (n : Nat) (hn1 : 2 ≤ n) (hn : n ≤ 8) (f : Nat) : ∀ (fr : Nat) (A : Option Addr) (c : Nat) (done : List Int) (vo : Value) (outs : List (List Int)) (okD okO : Nat → Prop) (w0 w : World)
 (hfr : fr ≤ 20) (hf : n - 1 ≤ fr + 2 * f) (hdl : done.length + f ≤ 20) (hlen : outs.length + (lvl (n - 1) f fr done).length ≤ 100000) (hB : Below w0.heap.size w0 w)
 (hD : Kd.R (Kd.int .i64) 3 w w0.heap.size okD (.slice A done.length c) done) (hO : Kd.S (Kd.slice 3 (Kd.int .i64)) 24 w w0.heap.size okO vo outs) (hap : ∀ k, okD k → ¬ okO k),
 Calls Tryz.prog 50 #[.int .i64 n, .slice A done.length c, .int .i64 fr, vo] w fun e w' => ∃ v, e = .returned v ∧ Kd.S (Kd.slice 3 (Kd.int .i64)) 24 w' w0.heap.size (fun k => okO k ∨ okD k ∨ w.heap.size ≤ k) v (outs ++ lvl (n - 1) f fr done) ∧ Below w0.heap.size w0 w' ∧ Kept w w' (fun k => some k = vo.ownBlock) ∧ (v.ownBlock = vo.ownBlock ∨ ∃ b, v.ownBlock = some b ∧ w.heap.size ≤ b) := by
 induction f using Nat.strongRecOn with
 | _ f ih =>
 intro fr A c done vo outs okD okO w0 w hfr hf hdl hlen hB hD hO hap
 have hwn : wrap64 ((n : Int) - 2) = (n : Int) - 2 := by unfold wrap64; omega
 have HWN := Lib.hid hwn;clear hwn;have hD' : Kd.R (Kd.int .i64) 3 w w0.heap.size (fun k => okD k ∧ w0.heap.size ≤ k ∧ k < w.heap.size) (.slice A done.length c) done := Kd.R_mono (Kd.R_bound hD) (fun k hk => ⟨hk.1, hk.2.1, hk.2.2.1⟩);have hO' : Kd.S (Kd.slice 3 (Kd.int .i64)) 24 w w0.heap.size (fun k => okO k ∧ w0.heap.size ≤ k ∧ k < w.heap.size) vo outs := Kd.S_mono (Kd.S_bound hO) (fun k hk => ⟨hk.1, hk.2.1, hk.2.2.1⟩);have hvo : ∀ k, vo.ownBlock = some k → okO k := (Kd.S_R hO).1;have hvol : ∀ k, vo.ownBlock = some k → k < w.heap.size := Kd.S_lt hO;have HD := a_ hD;have HDB := a_ hD';have HOB := a_ hO';have HB := a_ hB;have HAP := a_ hap;have HVO := a_ hvo;have HVL := a_ hvol;have HLE := Lib.hid hlen
 have HL1 := Lib.hid (show outs.length + 1 ≤ 100000 by
  have := lvlTo_le (n - 1) f fr done fr (by omega);rw [lvlTo_start] at this;simp at this
  omega)
 clear hD hO hap hB hD' hO' hvo hvol hlen;go_enter Tryz.func50, Tryz.ntmps50;go_wp2_with (first | ((with_reducible refine gate_builtin (b := .append) (xs := #[.tmp 10, .tmp 12]) rfl ?_); at_builtin; refine Kd.S_append (Kd.slice 3 (Kd.int .i64)) (w0 := w0) w0.heap.size rfl (.tmp 10) (.tmp 12) 28 24 (.slice none 0 0) 24 rfl Tryz.underlying28 info24 rfl (by decide) (by omega) vo outs done [.slice A done.length c] (fun k => okO k ∨ okD k ∨ w.heap.size ≤ k) (fun k => okD k ∧ w0.heap.size ≤ k ∧ k < w.heap.size) rfl rfl ?aP ?aK ?aF ?aO ?aB ?aS ?aL ?_; (case aP => exact ⟨_, rfl, HDB.out⟩); (case aK => exact fun k hk => ⟨.inr (.inl hk.1), fun e => HAP.out k hk.1 (HVO.out k e.symm)⟩); (case aF => exact fun k hk => .inr (.inr hk)); (case aO => exact Kd.S_mono HOB.out (fun k hk => ⟨.inl hk.1, fun h => HAP.out k h.1 hk.1⟩)); (case aB => exact HB.out); (case aS => exact HB.out.size); (case aL => exact (by have := HL1.out; omega)); intro v1 w1 ho hb hg hat));have HS1 := a_ (Kd.S_mono ho (fun k hk => hk));have HK1 := a_ (Kept.of_grown (S := fun k => some k = vo.ownBlock) hg (Kept.refl w _) (fun k e => .inl e.symm));have HB1 := a_ hb;have HA1 := a_ hat;clear ho hb hg hat;go_loopg [3, 9] (n + 1) (fun gg v3 v9 wr => ∃ r : Nat, fr ≤ r ∧ r ≤ max fr (n - 1) ∧ n - r ≤ gg ∧ v9 = .int .i64 (r : Int) ∧ Aside0 (Kd.S (Kd.slice 3 (Kd.int .i64)) 24 wr w0.heap.size (fun k => okO k ∨ okD k ∨ w.heap.size ≤ k) v3 (outs ++ lvlTo (n - 1) f fr done r)) ∧ Aside0 (Below w0.heap.size w0 wr) ∧ Aside0 (Kept w wr (fun k => some k = vo.ownBlock)) ∧ Aside0 (v3.ownBlock = vo.ownBlock ∨ ∃ b, v3.ownBlock = some b ∧ w.heap.size ≤ b))
 case atStart => exact ⟨fr, Nat.le_refl _, by omega, by omega, rfl, ⟨by rw [lvlTo_start]; exact HS1.out⟩, ⟨HB1.out⟩, ⟨HK1.out⟩, ⟨HA1.out⟩⟩
 case round =>
  clear HS1 HB1 HK1 HA1;obtain ⟨r, hr1, hr2, hg, rfl, HS, HBr, HK, HA⟩ := hrel;by_cases hlt : r < n - 1
  ·obtain ⟨f', rfl⟩ : ∃ f', f = f' + 1 := ⟨f - 1, by omega⟩
   have c1 : (r : Int) ≤ (n : Int) - 2 := by omega
   have c2 : decide ((r : Int) ≤ (n : Int) - 2) = true := decide_eq_true c1;have HDR : Aside0 (Kd.R (Kd.int .i64) 3 wr w0.heap.size okD (.slice A done.length c) done) := ⟨Kd.R_kept HD.out HK.out (fun k hk e => HAP.out k hk (HVO.out k e.symm))⟩
   have hdl' : done.length ≤ 20 := by omega
   have ecl : slices_Clone_int_int.f done = some done := by unfold slices_Clone_int_int.f; rw [if_pos (by omega)]
   have hcl := slices_Clone_int_int.calls A c done done wr (Kd.R_reads' HDR.out).2.2 (Kd.R_reads' HDR.out).2.1 ecl;have HC2 := Lib.hid c2;have HLT := Lib.hid hlt;clear c1 hdl' ecl
   have e2 : wrap64 ((r : Int) + 2) = ((r + 2 : Nat) : Int) := by unfold wrap64; omega
   have HE2 := Lib.hid e2;have HDL := Lib.hid hdl;obtain ⟨y, hy⟩ : ∃ y : List Int, y = done ++ [(r : Int)] := ⟨_, rfl⟩;have HY := Lib.hid hy;have HYL := Lib.hid (show y.length + f' ≤ 20 by rw [hy]; simp; omega)
   have HLV := Lib.hid (show (outs ++ lvlTo (n - 1) (f' + 1) fr done r).length + (lvl (n - 1) f' (r + 2) y).length ≤ 100000 by
    have h1 := lvlTo_le (n - 1) (f' + 1) fr done (r + 1) (by omega);rw [lvlTo_succ _ _ _ _ _ hr1, List.length_append] at h1;rw [List.length_append, hy];have := HLE.out
    omega)
   have HLS := Lib.hid (lvlTo_succ (n - 1) f' fr done r hr1);have HF := Lib.hid (show n - 1 ≤ r + 2 + 2 * f' by omega);have HR20 := Lib.hid (show r + 2 ≤ 20 by omega);clear e2 HDR hy hlt
   go_wp2_with (first | ((with_reducible refine gate_callee (f := 83) rfl ?_); refine goesL_ (some 23) rfl rfl Tryz.func83 (by kernel_rfl) rfl #[.slice A done.length c] rfl (by (try simp only [List.map_toArray, List.map_cons, List.map_nil]); first | done | rfl) ?_; refine hcl.mono ?_; rintro e w2 ⟨v2, rfl, hR2, hb2⟩; refine ⟨_, rfl, ?_⟩; have HR2 := a_ hR2; have HB2 := a_ (below_step HBr.out hb2); have HS2 := a_ (Kd.S_below (Kd.S_mono (Kd.S_bound HS.out) (fun k hk => (⟨hk.1, hk.2.2.1⟩ : (okO k ∨ okD k ∨ w.heap.size ≤ k) ∧ k < wr.heap.size))) hb2); have HK2 := a_ (Kept.below HK.out hb2); have HZ2 := a_ hb2.size; clear hR2 hb2) | ((with_reducible refine gate_builtin (b := .append) (xs := #[.tmp 23, .tmp 25]) rfl ?_); at_builtin; refine Kd.R_append (Kd.int .i64) (w0 := w0) w0.heap.size rfl (.tmp 23) (.tmp 25) 24 3 (.int .i64 0) 8 rfl Tryz.underlying24 info3 rfl (by decide) (by omega) v2 done (r : Int) [.int .i64 (r : Int)] (fun k => wr.heap.size ≤ k) (fun _ => False) rfl rfl ?bP (fun _ hk => hk.elim) ?bF ?bO ?bB ?bS ?bL ?_; (case bP => exact rfl); (case bF => exact fun k hk => Nat.le_trans HZ2.out hk); (case bO => exact Kd.R_lower (Kd.R_mono (Kd.R_bound HR2.out) (fun k hk => hk.2.1)) HBr.out.size); (case bB => exact HB2.out); (case bS => exact HB2.out.size); (case bL => exact (by have := HDL.out; omega)); intro v3 w3 ho hb hg hat; rw [← HY.out] at ho; obtain ⟨A3, c3, e3⟩ := Kd.R_slice ho; subst e3; have HR3 := a_ ho; have HB3 := a_ hb; have HS3 := a_ (Kd.S_grown HS2.out hg (fun k hk e => by have h1 := Kd.R_base HR2.out k e.symm; have h2 := hk.2; omega)); have HK3 := a_ (Kept.of_grown (S := fun k => some k = vo.ownBlock) hg HK2.out (fun k e => .inr (Nat.le_trans HK.out.1 (Kd.R_base HR2.out k e)))); clear ho hb hg hat) | ((with_reducible refine gate_callee (f := 50) rfl ?_); refine goesL_ (some 30) rfl rfl Tryz.func50 (by kernel_rfl) rfl #[.int .i64 (n : Int), .slice A3 y.length c3, .int .i64 ((r + 2 : Nat) : Int), _] rfl (by (try simp only [List.map_toArray, List.map_cons, List.map_nil, HE2.out]); first | done | rfl) ?_; refine (ih f' (by omega) (r + 2) A3 c3 y _ (outs ++ lvlTo (n - 1) (f' + 1) fr done r) (fun k => wr.heap.size ≤ k) (fun k => (okO k ∨ okD k ∨ w.heap.size ≤ k) ∧ k < wr.heap.size) w0 _ HR20.out HF.out HYL.out HLV.out HB3.out HR3.out HS3.out (fun k h1 h2 => absurd h2.2 (Nat.not_lt.2 h1))).mono ?_; rintro e w4 ⟨v4, rfl, hS4, hB4, hK4, hA4⟩; refine ⟨_, rfl, ?_⟩; have HS4 := a_ (Kd.S_mono (ok' := fun k => okO k ∨ okD k ∨ w.heap.size ≤ k) hS4 (fun k hk => hk.elim (fun h => h.1) (fun h => .inr (.inr (h.elim (fun h => Nat.le_trans HK.out.1 h) (fun h => Nat.le_trans HK3.out.1 h)))))); have HB4 := a_ hB4; have HK4 := a_ (Kept.then_ (S := fun k => some k = vo.ownBlock) HK3.out hK4 (fun k e => HA.out.elim (fun h => .inl (e.trans h)) (fun ⟨b, hb, hle⟩ => .inr (by rw [hb] at e; injection e with e; omega)))); have HA4 := a_ (hA4.elim (fun h => HA.out.elim (fun h2 => (.inl (h.trans h2) : v4.ownBlock = vo.ownBlock ∨ ∃ b, v4.ownBlock = some b ∧ w.heap.size ≤ b)) (fun ⟨b, hb, hle⟩ => .inr ⟨b, h.trans hb, hle⟩)) (fun ⟨b, hb, hle⟩ => .inr ⟨b, hb, Nat.le_trans HK3.out.1 hle⟩)); clear hS4 hB4 hK4 hA4))
   go_roundg (n - (r + 1))
   case measure => have := HLT.out; omega
   case rel => exact ⟨r + 1, by omega, by have := HLT.out; omega, by omega, by go_num, ⟨by rw [HLS.out, ← HY.out, ← List.append_assoc]; exact HS4.out⟩, ⟨HB4.out⟩, ⟨HK4.out⟩, ⟨HA4.out⟩⟩
  ·have c2 : decide ((r : Int) ≤ (n : Int) - 2) = false := decide_eq_false (by omega);have he := lvlTo_end (n - 1) f fr done r (by omega);have HE := Lib.hid he;clear he hlt;go_wp2;go_ret;exact ⟨_, rfl, by rw [← HE.out]; exact HS.out, HBr.out, HK.out, HA.out⟩


/-! ### impl_exchanged: function 84 -/
def impl_exchanged.f (l0 : List Int) (a1 : Int) : Option (List Int) := (slices_Clone_int_int.f l0).bind fun t444 => (if 0 ≤ (wrap64 (a1 + 1)) then (if (wrap64 (a1 + 1)) < (t444.length : Int) then (if 0 ≤ a1 then (if a1 < (t444.length : Int) then (some ((t444.set (a1 : Int).toNat (rd t444 (wrap64 (a1 + 1)))).set ((wrap64 (a1 + 1)) : Int).toNat (rd t444 a1))) else (none)) else (none)) else (none)) else (none))
def impl_exchanged.T2 : Bool × List (List Nat × List Nat) := (true, [([], []), ([], []), ([], []), ([], []), ([3], [3]), ([], []), ([], []), ([6], [6]), ([5, 7], [5, 7]), ([8], [8]), ([], []), ([], []), ([10, 11], [10, 11]), ([12], [12]), ([0, 1, 0, 1, 5, 6, 7, 8, 9, 13], [0, 1]), ([14, 9, 0, 1, 5, 6, 7, 8, 9, 13], [9, 14]), ([2, 4, 0, 1, 2, 3, 4, 5, 6, 7, 8, 9, 10, 11, 12, 13, 14, 15], [2, 4]), ([16, 13, 15, 0, 1, 2, 3, 4, 5, 6, 7, 8, 9, 10, 11, 12, 13, 14, 15], [13, 16])])
def impl_exchanged.B2 : List Nat := [0, 0, 0, 0, 8, 0, 0, 64, 224, 480, 0, 0, 3072, 7168, 16355, 32739, 65535, 131071]
theorem impl_exchanged.tab2 : rtab .any (opsOf Tryz.f84 2) = impl_exchanged.T2 := by kernel_rfl
theorem impl_exchanged.bits2 : waitsOk impl_exchanged.T2.2 impl_exchanged.B2 = true := by kernel_rfl
theorem impl_exchanged.calls (A0 : Option Addr) (c0 : Nat) (l0 : List Int) (a1 : Int) (r : List Int) (w : World) (hr0 : Kd.C (Kd.int .i64) w A0 l0.length l0) (hc0 : l0.length ≤ c0) (h : impl_exchanged.f l0 a1 = some r) :
 Calls Tryz.prog 84 #[.slice A0 l0.length c0, .int .i64 a1] w fun e w' => ∃ v0_ : Value, e = .returned (v0_) ∧ Kd.R (Kd.int .i64) 3 w' w.heap.size (fun _ => True) v0_ r ∧ Below w.heap.size w w' := by
 have HR0 := a_ hr0;have HC0 := a_ hc0;clear hr0 hc0;have HB := a_ (Below.refl w.heap.size w);have H := h;unfold impl_exchanged.f at H;clear h;obtain ⟨t444, A3, H⟩ := ob_ H;(try dsimp only at H);obtain ⟨ji4, hji4⟩ : ∃ j_ : Int, (wrap64 (a1 + 1)) = j_ := ⟨_, rfl⟩;(first | rw [hji4] at H | simp only [hji4] at H)
 (try rw [hji4] at A3);have hji4w : (IntKind.i64.wrap (a1 + 1)) = ji4 := (i64_w _).trans hji4;obtain ⟨c5b0, H⟩ := ic_ H;obtain ⟨c6b0, H⟩ := ic_ H;obtain ⟨c7b0, H⟩ := ic_ H;obtain ⟨c8b0, H⟩ := ic_ H;generalize hy_ : (t444.set (a1 : Int).toNat (rd t444 (ji4))) = y449 at H;have Ny449 := a_ hy_.symm;clear hy_;generalize hy_ : (y449.set ((ji4) : Int).toNat (rd t444 a1)) = y450 at H;have Ny450 := a_ hy_.symm;clear hy_;obtain rfl := s1_ H;go_enter Tryz.func84, Tryz.ntmps84
 try go_wp2_with (first | ((with_reducible refine gate_callee (f := 83) rfl ?_); refine gm_ (some 7) Tryz.func83 #[.slice A0 l0.length c0] rfl ?_; (with_reducible refine (slices_Clone_int_int.calls _ _ l0 t444 _ ?side1 ?side2 A3.out).mono ?_); (case side1 => repeat (first | exact HR0.out | (with_reducible refine Kd.C_alloc ?_ _) | (with_reducible refine Kd.C_drewN ?_ _) | (with_reducible refine Kd.C_drew ?_))); (case side2 => exact HC0.out); rintro e w11 ⟨v445, rfl, ho0, hb⟩; refine ⟨_, rfl, ?_⟩; have HO446 := a_ (Kd.R_lower ho0 (below_size (Bl_ HB))); replace HB := Bs_ HB hb; (try clear hb); (try clear ho0)))
 replace HO446 := a_ (Kd.R_drew HO446.out);replace HB := a_ (below_drew1 HB.out);obtain ⟨Ao13, co13, eo13⟩ := Kd.R_slice HO446.out;(first | subst eo13 | (injection eo13 with f1_ f2_ f3_; have f4_ := f1_.symm; have f5_ := f3_.symm; clear f1_ f2_ f3_; subst f4_; subst f5_));obtain ⟨ad447, e447, hx447_0, p447, q447⟩ := ai_ (Kd.R_reads' HO446.out).2.2 (ji4)
 cases e447;obtain ⟨ad448, e448, hx448_0, p448, q448⟩ := ai_ (Kd.R_reads' HO446.out).2.2 a1;obtain rfl : ad447 = ad448 := (by injection e448);have p9 : 0 ≤ (a1 : Int) := od_;have q9 : (a1 : Int) < ((t444.length : Int) : Int) := od_;obtain ⟨go9, co9, eo9, gb9, gl9, cl9, HG9⟩ := Kd.R_form HO446.out (by omega);(first | cases eo9 | (injection eo9 with ea_ en_ ec_; (first | subst ea_ | (injection ea_ with ea_; subst ea_)); subst ec_; clear en_));have GB9 := a_ gb9;have GG9 := a_ HG9;clear gb9 gl9 HG9;(first | simp only [add_plain] at hx447_0 | skip);(first | simp only [add_plain] at hx448_0 | skip);obtain ⟨hx9_0, hf9_0⟩ := Kd.R_celln 0 HO446.out (a1 : Int) p9 q9;replace p9 := eq_true p9;replace q9 := eq_true q9;have HP14 := Kd.R_putn HO446.out (a1 : Int) (rd t444 (ji4));rw [← Ny449.out] at HP14;have HQ14 := a_ HP14;clear HP14;have p10 : 0 ≤ ((ji4) : Int) := od_;have q10 : ((ji4) : Int) < ((t444.length : Int) : Int) := od_;obtain ⟨hx10_0, hf10_0⟩ := Kd.R_celln 0 HQ14.out ((ji4) : Int) p10 q10;replace p10 := eq_true p10;replace q10 := eq_true q10;have HP15 := Kd.R_putn HQ14.out ((ji4) : Int) (rd t444 a1);rw [← Ny450.out] at HP15;have HQ15 := a_ HP15;clear HP15;refine start_ (n := 18) (S := fun w' => w'.cell? ⟨go9, ((ji4)).toNat, none⟩ = some (.int .i64 (rd t444 (ji4))) ∧ w'.cell? ⟨go9, (a1).toNat, none⟩ = some (.int .i64 (rd t444 a1))) (ds := [15, 17]) (fl_ 18 0) (by kernel_rfl) rfl rfl ⟨hx447_0, hx448_0⟩ (fun hHeld => ?_); refine with_tabW impl_exchanged.tab2 impl_exchanged.bits2 (fun HT_ HW_ => ?_);generalize w11.drew = w12 at HO446 HB GG9 HQ14 HQ15 hf10_0 hf9_0 hx10_0 hx447_0 hx448_0 hx9_0 hHeld ⊢;refine puw_ 0 8 ?_;refine puw_ 1 9 ?_;refine puw_ 2 10 ?_;refine puw_ 3 11 ?_;refine puw_ 4 12 ?_
 refine puw_ 5 13 ?_;refine puw_ 6 14 ?_;refine puw_ 7 15 ?_;refine puw_ 8 16 ?_;refine puw_ 10 18 ?_;refine puw_ 11 19 ?_;refine puw_ 12 20 ?_;refine tkw_ 9 17 hHeld ?_;refine tkw_ 13 21 hHeld ?_;refine puw_ 14 22 ?_;refine last_ (i := 15) (N := none) (fl_ 18 16) rfl rfl (one_of HT_.out (by kernel_rfl)) (by decide) (fun K hK => ?_);refine skip_ (w1 := ?_) (by rfl) rfl ?_ ?_;rotate_left
 ·go_simp;rfl
 refine hK.out _ _ ?_;clear hK K;refine puw_ 16 23 ?_;refine last_ (i := 17) (N := none) (fl_ 18 18) rfl rfl (one_of HT_.out (by kernel_rfl)) (by decide) (fun K hK => ?_);refine skip_ (w1 := ?_) (by rfl) rfl ?_ ?_;rotate_left
 ·go_simp;rfl
 refine hK.out _ _ ?_;clear hK K;refine done_ (done_of HT_.out (by kernel_rfl)) ?_
 try go_wp2
 go_ret;exact ⟨_, by first | rfl | (simp [errW_none, errW_some] <;> rfl) | (simp only [← hji4]; first | rfl | (simp [errW_none, errW_some] <;> rfl)) | (simp [*, errW_none, errW_some] <;> rfl), Rl_ HQ15.out, Bl_ HB⟩

/-! ### impl_laid: function 51 -/
def impl_laid.l0 : Nat → List Int → List Int → Int → Int → Option (List Int)
 | 0, _, _, _, _ => none
 | k + 1, x0, x7, x8, x9 => if x9 < x8 then (if 0 ≤ x9 then (if x9 < (x7.length : Int) then ((impl_exchanged.f x0 (rd x7 x9)).bind fun t452 => (impl_laid.l0 k t452 x7 x8 (wrap64 (x9 + 1)))) else (none)) else (none)) else (some x0)
def impl_laid.f (k : Nat) (l0 : List Int) (l1 : List Int) : Option (List Int) := impl_laid.l0 k l0 l1 (l1.length : Int) 0
theorem impl_laid.mono_l : ∀ k, (∀ y0 y1 y2 y3, LeO (impl_laid.l0 k y0 y1 y2 y3) (impl_laid.l0 (k + 1) y0 y1 y2 y3))
 | 0 => fun _ _ _ _ r h => by simp [impl_laid.l0] at h
 | k + 1 => by
  have ih0 := impl_laid.mono_l k
  ·intro y0 y1 y2 y3;unfold impl_laid.l0;exact mo_
theorem impl_laid.mono : ∀ a0 a1 k, LeO (impl_laid.f k a0 a1) (impl_laid.f (k + 1) a0 a1) := by
 intro a0 a1 k;have ih0 := impl_laid.mono_l k;unfold impl_laid.f;exact mo_
theorem impl_laid.calls (k : Nat) (P0_ : Nat → Prop) (A0 : Option Addr) (c0 : Nat) (l0 : List Int) (A1 : Option Addr) (c1 : Nat) (l1 : List Int) (r : List Int) (w : World) (hs0 : Kd.V (Kd.int .i64) 3 w w.heap.size (fun k_ => P0_ k_) (.slice A0 l0.length c0) l0) (hr1 : Kd.C (Kd.int .i64) w A1 l1.length l1) (hc1 : l1.length ≤ c1) (h : impl_laid.f k l0 l1 = some r) :
 Calls Tryz.prog 51 #[.slice A0 l0.length c0, .slice A1 l1.length c1] w fun e w' => ∃ v0_ : Value, e = .returned (v0_) ∧ Kd.V (Kd.int .i64) 3 w' w.heap.size (fun k_ => (P0_ k_ ∨ w.heap.size ≤ k_)) v0_ r ∧ Below w.heap.size w w' := by
 have HO0 := a_ (show Kd.V (Kd.int .i64) 3 w w.heap.size (fun k_ => (P0_ k_ ∨ w.heap.size ≤ k_)) (.slice A0 l0.length c0) l0 from Kd.V_mono hs0 (fun k_ hk => .inl hk));have HR1 := a_ hr1;have HC1 := a_ hc1;clear hr1 hc1;have HB := a_ (Below.refl w.heap.size w);have H := h;unfold impl_laid.f at H;clear h;have H' := a_ H;clear H;go_enter Tryz.func51, Tryz.ntmps51;go_wp2;go_loopg [0, 9] k (fun kq v0 v9 w' => ∃ (x0_1 : List Int) (x9_1 : Int), v9 = .int .i64 x9_1 ∧ Aside0 (impl_laid.l0 kq x0_1 l1 (l1.length : Int) x9_1 = some r) ∧ Aside0 (kq ≤ k) ∧ Aside0 (Kd.V (Kd.int .i64) 3 w' w.heap.size (fun k_ => (P0_ k_ ∨ w.heap.size ≤ k_)) v0 x0_1) ∧ Aside0 (Below w.heap.size w w'))
 case atStart => exact ⟨(l0), (0), rs_, H', ⟨Nat.le_refl _⟩, ⟨Vl_ HO0.out⟩, ⟨Bl_ HB⟩⟩
 case round =>
  clear H';obtain ⟨x0_1, x9_1, rfl, HA, HK1, HO_0, HB⟩ := hrel
  cases gk with
  | zero => exact absurd HA.out (by simp [impl_laid.l0])
  | succ k1 =>
   have H := HA.out;clear HA;simp only [impl_laid.l0] at H;rcases ib_ H with ⟨c3, H⟩ | ⟨c3, H⟩
   ·have c3b0 := decide_eq_false c3;clear c3;obtain rfl := s1_ H;go_wp2;go_ret;exact ⟨_, re_, Vl_ HO_0.out, Bl_ HB⟩
   have c3b0 := decide_eq_true c3;clear c3;obtain ⟨c4b0, H⟩ := ic_ H;obtain ⟨c5b0, H⟩ := ic_ H;obtain ⟨t452, A6, H⟩ := ob_ H;(try dsimp only at H);have H' := a_ H;clear H;obtain ⟨ad451, e451, hx451_0, p451, q451⟩ := ah_ HR1 HB x9_1
   cases e451;obtain ⟨Ao7, co7, eo7⟩ := Kd.V_slice HO_0.out;subst eo7;go_wp2_with (first | ((with_reducible refine gate_callee (f := 84) rfl ?_); refine gm_ (some 15) Tryz.func84 #[.slice Ao7 x0_1.length co7, .int .i64 (rd l1 x9_1)] rfl ?_; (with_reducible refine (impl_exchanged.calls _ _ x0_1 (rd l1 x9_1) t452 _ ?side1 ?side2 A6.out).mono ?_); (case side1 => repeat (first | exact (Kd.V_reads' HO_0.out).2.2 | (with_reducible refine Kd.C_alloc ?_ _) | (with_reducible refine Kd.C_drewN ?_ _) | (with_reducible refine Kd.C_drew ?_))); (case side2 => exact (Kd.V_reads' HO_0.out).2.1); rintro e w8 ⟨v453, rfl, ho0, hb⟩; refine ⟨_, rfl, ?_⟩; replace HO_0 := a_ (Kd.V_elder' (Vl_ HO_0.out) (Kd.R_base ho0) hb); have HO454 := a_ (Kd.R_lower (Kd.R_newM (M := fun k_ => (w.heap.size ≤ k_)) ho0 (below_size (Bl_ HB)) (fun k_ h_ => h_)) (below_size (Bl_ HB))); replace HB := Bs_ HB hb; (try clear hb); (try clear ho0)));go_roundg k1
   case measure => have := HK1.out; omega
   case rel => exact ⟨(t452), (wrap64 (x9_1 + 1)), rs_, H', ⟨by have := HK1.out; omega⟩, ⟨Kd.V_mono (Kd.R_V (Rl_ (Kd.R_mono HO454.out (fun _ hk => hk.1)))) (fun k_ hk => by first | exact ⟨(.inr (hk.1)), hk.2⟩ | exact (.inr (hk)))⟩, ⟨Bl_ HB⟩⟩

/-! ### impl_identity: function 81 -/
def impl_identity.l0 : Nat → List Int → Int → Int → Option (List Int)
 | 0, _, _, _ => none
 | k + 1, x3, x6, x7 => if x7 < x6 then (if x3.length < 17592186044416 then (impl_identity.l0 k (x3 ++ [x7]) x6 (wrap64 (x7 + 1))) else (none)) else (some x3)
def impl_identity.f (k : Nat) (a0 : Int) : Option (List Int) := impl_identity.l0 k (([] : List Int)) a0 0
theorem impl_identity.mono_l : ∀ k, (∀ y0 y1 y2, LeO (impl_identity.l0 k y0 y1 y2) (impl_identity.l0 (k + 1) y0 y1 y2))
 | 0 => fun _ _ _ r h => by simp [impl_identity.l0] at h
 | k + 1 => by
  have ih0 := impl_identity.mono_l k
  ·intro y0 y1 y2;unfold impl_identity.l0;exact mo_
theorem impl_identity.mono : ∀ a0 k, LeO (impl_identity.f k a0) (impl_identity.f (k + 1) a0) := by
 intro a0 k;have ih0 := impl_identity.mono_l k;unfold impl_identity.f;exact mo_
theorem impl_identity.calls (k : Nat) (a0 : Int) (r : List Int) (w : World) (h : impl_identity.f k a0 = some r) :
 Calls Tryz.prog 81 #[.int .i64 a0] w fun e w' => ∃ v0_ : Value, e = .returned (v0_) ∧ Kd.R (Kd.int .i64) 3 w' w.heap.size (fun _ => True) v0_ r ∧ Below w.heap.size w w' := by
 have HB := a_ (Below.refl w.heap.size w);have H := h;unfold impl_identity.f at H;clear h;generalize hy_ : (([] : List Int)) = y455 at H;have Ny455 := a_ hy_.symm;clear hy_;have H' := a_ H;clear H;go_enter Tryz.func81, Tryz.ntmps81;go_wp2_with (first | ((with_reducible refine gate_dst (N := 5) rfl ?_); refine Kd.R_lit (Kd.int .i64) _ 3 ?hg (N := 5) ?hd (xs := ([] : List Int)) (inner := []) (ok := fun _ => True) (okp := fun _ => True) ?hr ?hp (fun _ hk => hk) trivial (Below.refl _ _) (Nat.le_refl _) (by simp) ?_; (case hd => rfl); (case hg => rfl); (case hr => first | (go_simp; done) | (go_simp; rfl)); (case hp => exact (Reps.none _ _)); intro v456 w2 ho3 hb hg_ hnew_; clear hg_ hnew_; (first | rw [← Ny455.out] at ho3 | (simp only [Int.reduceToNat] at ho3; rw [← Ny455.out] at ho3)); have HO457 := a_ (Kd.R_lower ho3 (below_size (Bl_ HB))); replace HB := Bs_ HB hb; clear hb ho3));go_loopg [3, 7] k (fun kq v3 v7 w' => ∃ (x3_1 : List Int) (x7_1 : Int), v7 = .int .i64 x7_1 ∧ Aside0 (impl_identity.l0 kq x3_1 a0 x7_1 = some r) ∧ Aside0 (kq ≤ k) ∧ Aside0 (Kd.R (Kd.int .i64) 3 w' w.heap.size (fun _ => True) v3 x3_1) ∧ Aside0 (Below w.heap.size w w'))
 case atStart => exact ⟨(y455), (0), rs_, H', ⟨Nat.le_refl _⟩, ⟨Rl_ HO457.out⟩, ⟨Bl_ HB⟩⟩
 case round =>
  clear H';obtain ⟨x3_1, x7_1, rfl, HA, HK1, HO_3, HB⟩ := hrel
  cases gk with
  | zero => exact absurd HA.out (by simp [impl_identity.l0])
  | succ k1 =>
   have H := HA.out;clear HA;simp only [impl_identity.l0] at H;rcases ib_ H with ⟨c4, H⟩ | ⟨c4, H⟩
   ·have c4b0 := decide_eq_false c4;clear c4;obtain rfl := s1_ H;go_wp2;go_ret;exact ⟨_, re_, Rl_ HO_3.out, Bl_ HB⟩
   have c4b0 := decide_eq_true c4;clear c4;obtain ⟨LMc5, H⟩ := ia_ H;generalize hy_ : (x3_1 ++ [x7_1]) = y458 at H;have Ny458 := a_ hy_.symm;clear hy_;have H' := a_ H;clear H;go_wp2_with (first | ((with_reducible refine gate_builtin (b := .append) (xs := #[.tmp 10, .tmp 12]) rfl ?_); at_builtin; refine Kd.R_append (Kd.int .i64) (w0 := w) w.heap.size rfl (.tmp 10) (.tmp 12) 24 3 (.int .i64 0) 8 rfl Tryz.underlying24 info3 rfl (by decide) (by omega) u3 x3_1 x7_1 [.int .i64 x7_1] (fun _ => True) (fun _ => False) rfl rfl ?aP (fun _ hk => hk.elim) ?aF ?aO ?aB ?aS ?aL ?_; (case aP => exact rfl); (case aB => exact (Bl_ HB)); (case aF => exact (fun _ _ => trivial)); (case aO => exact (Rl_ HO_3.out)); (case aS => exact (below_size (Bl_ HB))); (case aL => have := LMc5.out; omega); intro v459 w6 ho hb hg hat; rw [← Ny458.out] at ho; replace HB := a_ (hb); have HO460 := a_ (ho); clear HO_3; clear ho hb hg hat));go_roundg k1
   case measure => have := HK1.out; omega
   case rel => exact ⟨(y458), (wrap64 (x7_1 + 1)), rs_, H', ⟨by have := HK1.out; omega⟩, ⟨Rl_ HO460.out⟩, ⟨Bl_ HB⟩⟩

/-! ### impl_depths: function 47 -/
/-- an order whose numbers have one sign each -/
def ordOk (p : List Int) : Bool := decide (p.length ≤ 100) && p.all fun x => decide (0 ≤ x ∧ x < 10)
def keyB (p : List Int) : ByteArray := strOfNums (p.map fun x => (wrap64 (48 + x)) % 256)
def keyL (p : List Int) : Lit := .string (keyB p).data.toList
/-- an order that has a key, and this is told by so many rounds -/
def keyOk (k : Nat) (p : List Int) : Bool := ordOk p && decide (impl_orderKey.f k p = some (keyB p))
def putD (x : List Int) (v : Int) (q : List (List Int × Int)) : List (List Int × Int) := if q.any (fun e => decide (e.1 = x)) then q else q ++ [(x, v)]
def depIn (k : Nat) (p : List Int) (v : Int) : List (List Int) → List (List Int × Int) → Option (List (List Int × Int))
  | [], q => some q
  | l :: ls, q => (impl_laid.f k p l).bind fun x => if keyOk k x = true ∧ q.length < 10000 then depIn k p v ls (putD x v q) else none
def depL (k0 : Nat) (ls : List (List Int)) : Nat → Nat → List (List Int × Int) → Option (List (List Int × Int))
  | 0, _, _ => none
  | k + 1, i, q => match q[i]? with
    | none => some q
    | some e => if keyOk k0 e.1 = true ∧ i < 10000 then (depIn k0 e.1 (wrap64 (e.2 + 1)) ls q).bind fun q' => depL k0 ls k (i + 1) q' else none
def impl_depths.f (k : Nat) (a0 : Int) : Option (List (List Int × Int)) := if 2 ≤ a0 ∧ a0 ≤ 6 then (impl_identity.f k a0).bind fun p => if keyOk k p = true then depL k (lvl (a0.toNat - 1) 8 0 []) k 0 [(p, 0)] else none else none
theorem keyOk_ok {k : Nat} {p : List Int} (h : keyOk k p = true) : ordOk p = true ∧ impl_orderKey.f k p = some (keyB p) := by
  unfold keyOk at h
  rw [Bool.and_eq_true] at h
  exact ⟨h.1, of_decide_eq_true h.2⟩
theorem keyOk_mono {k : Nat} {p : List Int} (h : keyOk k p = true) : keyOk (k + 1) p = true := by
  obtain ⟨h1, h2⟩ := keyOk_ok h
  unfold keyOk
  rw [h1, impl_orderKey.mono p k _ h2]
  simp
theorem LeO.guard {α : Type} {p q : Prop} [Decidable p] [Decidable q] {a b : Option α} (hpq : p → q) (h : LeO a b) : LeO (if p then a else none) (if q then b else none) := by
  intro r hr
  by_cases hp : p
  · rw [if_pos hp] at hr
    rw [if_pos (hpq hp)]
    exact h r hr
  · rw [if_neg hp] at hr
    cases hr
theorem depIn_mono (k : Nat) (p : List Int) (v : Int) : ∀ ls q, LeO (depIn k p v ls q) (depIn (k + 1) p v ls q)
  | [], _ => LeO.refl _
  | _ :: _, _ => LeO.bind (impl_laid.mono _ _ _) fun _ => LeO.guard (fun h => ⟨keyOk_mono h.1, h.2⟩) (depIn_mono k p v _ _)
theorem depL_mono (k0 : Nat) (ls : List (List Int)) : ∀ k i q, LeO (depL k0 ls k i q) (depL (k0 + 1) ls (k + 1) i q)
  | 0, _, _ => LeO.none _
  | k + 1, i, q => by
    unfold depL
    cases q[i]? with
    | none => exact LeO.refl _
    | some e => exact LeO.guard (fun h => ⟨keyOk_mono h.1, h.2⟩) (LeO.bind (depIn_mono _ _ _ _ _) fun _ => depL_mono k0 ls k _ _)
theorem impl_depths.mono : ∀ a0 k, LeO (impl_depths.f k a0) (impl_depths.f (k + 1) a0) := fun _ _ => LeO.ite (LeO.bind (impl_identity.mono _ _) fun _ => LeO.guard keyOk_mono (depL_mono _ _ _ _ _)) (LeO.refl _)
theorem keyB_data (p : List Int) : (keyB p).data.toList = p.map fun x => UInt8.ofNat ((wrap64 (48 + x)) % 256).toNat := by
  unfold keyB strOfNums
  simp
theorem keyL_inj {p p' : List Int} (h : ordOk p = true) (h' : ordOk p' = true) (e : keyL p = keyL p') : p = p' := by
  have e1 : (keyB p).data.toList = (keyB p').data.toList := by injection e
  rw [keyB_data, keyB_data] at e1
  unfold ordOk at h h'
  rw [Bool.and_eq_true, List.all_eq_true] at h h'
  have h2 := h.2
  have h2' := h'.2
  clear h h' e
  induction p generalizing p' with
  | nil => cases p' with
    | nil => rfl
    | cons a p' => cases e1
  | cons a p ih => cases p' with
    | nil => cases e1
    | cons b p' =>
      simp only [List.map_cons, List.cons.injEq] at e1
      have ha := of_decide_eq_true (h2 a (by simp))
      have hb := of_decide_eq_true (h2' b (by simp))
      have e2 := congrArg UInt8.toNat e1.1
      rw [show (wrap64 (48 + a)) % 256 = 48 + a by unfold wrap64; omega, show (wrap64 (48 + b)) % 256 = 48 + b by unfold wrap64; omega] at e2
      simp at e2
      rw [show a = b by omega, ih e1.2 (fun x hx => h2 x (by simp [hx])) (fun x hx => h2' x (by simp [hx]))]
theorem keyB_size (p : List Int) : (keyB p).size = p.length := by
  have := congrArg List.length (keyB_data p)
  simpa using this
/-- what the map tells of the list of orders and depths -/
def DepD (D : DataW Unit) (q : List (List Int × Int)) : Prop := Maps.IsMap D ∧ (∀ p, ordOk p = true → Maps.has D (keyL p) = q.any (fun e => decide (e.1 = p))) ∧ (∀ e, e ∈ q → ordOk e.1 = true ∧ ∀ z, D.atKey (keyL e.1) z = .lit (.int .i64 e.2)) ∧ (∀ kl, Maps.has D kl = true → ∃ e, e ∈ q ∧ keyL e.1 = kl) ∧ (q.map (·.1)).Nodup
theorem DepD.put {D : DataW Unit} {q : List (List Int × Int)} (h : DepD D q) {x : List Int} {v : Int} (hx : ordOk x = true) (hn : q.any (fun e => decide (e.1 = x)) = false) : DepD (D.put (keyL x) (.lit (.int .i64 v))) (q ++ [(x, v)]) := by
  obtain ⟨h1, h2, h3, h4, h5⟩ := h
  have hk : WideAt.IsKeyLit (keyL x) := trivial
  have hm : ∀ e, e ∈ q → e.1 ≠ x := by
    intro e he e1
    rw [List.any_eq_false] at hn
    exact hn e he (decide_eq_true e1)
  refine ⟨?_, fun p hp => ?_, fun e he => ?_, fun kl hkl => ?_, ?_⟩
  · obtain ⟨es, rfl⟩ := h1
    exact ⟨_, rfl⟩
  · by_cases e : p = x
    · subst e
      rw [Maps.has_put_same h1 hk]
      simp
    · rw [Maps.has_put_other (fun e2 => e (keyL_inj hp hx e2)), h2 p hp]
      simp [show ¬ x = p from fun e2 => e e2.symm]
  · rw [List.mem_append] at he
    rcases he with he | he
    · obtain ⟨g1, g2⟩ := h3 e he
      refine ⟨g1, fun z => ?_⟩
      rw [Maps.atKey_put_other (fun e2 => hm e he (keyL_inj g1 hx e2))]
      exact g2 z
    · rw [List.mem_singleton] at he
      subst he
      exact ⟨hx, fun z => Maps.atKey_put_same h1 hk _ _⟩
  · by_cases e : kl = keyL x
    · exact ⟨(x, v), by simp, e.symm⟩
    · rw [Maps.has_put_other e] at hkl
      obtain ⟨e2, he2, hk2⟩ := h4 kl hkl
      exact ⟨e2, by simp [he2], hk2⟩
  · rw [List.map_append, List.nodup_append]
    refine ⟨h5, by simp, fun a ha b hb => ?_⟩
    rw [List.mem_map] at ha
    obtain ⟨e, he, rfl⟩ := ha
    simp at hb
    subst hb
    exact hm e he
theorem DepD.nil : DepD (.map []) [] := ⟨⟨[], rfl⟩, fun p _ => rfl, fun e he => (by cases he), fun kl h => (by cases h), List.nodup_nil⟩
/-- the depth of an order; 0 of any other -/
def lookD (q : List (List Int × Int)) (p : List Int) : Int := match q.find? (fun e => decide (e.1 = p)) with | some e => e.2 | none => 0
theorem DepD.look {D : DataW Unit} {q : List (List Int × Int)} (h : DepD D q) {p : List Int} (hp : ordOk p = true) : D.atKey (keyL p) (.lit (.int .i64 0)) = .lit (.int .i64 (lookD q p)) := by
  obtain ⟨h1, h2, h3, h4, h5⟩ := h
  unfold lookD
  cases hf : q.find? (fun e => decide (e.1 = p)) with
  | some e =>
    have hm := List.mem_of_find?_eq_some hf
    have hp2 := List.find?_some hf
    have e1 : e.1 = p := of_decide_eq_true hp2
    rw [← e1]
    exact (h3 e hm).2 _
  | none =>
    rw [List.find?_eq_none] at hf
    exact Maps.atKey_of_not_has (by rw [h2 p hp, List.any_eq_false]; exact hf) _
theorem str_keyed : Maps.Keyed Tryz.prog 9 := Maps.string_keyed Tryz.underlying9
theorem keyOf_str {p : List Int} (h : ordOk p = true) : keyOf Tryz.prog 9 (.string (keyB p)) = some (keyL p) := by
  unfold keyOf
  rw [Tryz.underlying9]
  have h1 : p.length ≤ 100 := by
    unfold ordOk at h
    rw [Bool.and_eq_true] at h
    exact of_decide_eq_true h.1
  have h2 : (keyB p).size ≤ maxLen := by rw [keyB_size]; exact Nat.le_trans h1 (by decide)
  simp [mapKey, Tryz.underlying9, h2]
  rfl
def Dep (w : World) (bm : Nat) (q : List (List Int × Int)) : Prop := ∃ D : DataW Unit, w.ownsMap Tryz.prog 9 (plainElem Tryz.prog 3) bm q.length D ∧ DepD D q
theorem Dep.kept {w w1 : World} {bm : Nat} {q : List (List Int × Int)} (h : Dep w bm q) {row : Option Nat} (hg : w.grownBy w1 row) (hne : some bm ≠ row) : Dep w1 bm q := by
  obtain ⟨D, h1, h2⟩ := h
  exact ⟨D, h1.kept hg hne, h2⟩
theorem Dep.below {w w1 : World} {bm : Nat} {q : List (List Int × Int)} (h : Dep w bm q) (hb : Below w.heap.size w w1) : Dep w1 bm q := h.kept (grown_of_below hb none) (by simp)
theorem Dep.lt {w : World} {bm : Nat} {q : List (List Int × Int)} (h : Dep w bm q) : bm < w.heap.size := by
  obtain ⟨D, h1, _⟩ := h
  exact h1.lt
section
variable {ops : Array Oper} {rest : List Oper} {o : Oper} {a : Act} {Q : Exit → Act → World → Prop} {W : World}
theorem dep_made (hop : o.op = .makeMap 63 none) (hgd : o.guard = none) (h : ∀ b w1, b = W.heap.size → Dep w1 b [] → Below W.heap.size W w1 → wpList Tryz.prog ops Q rest (a.put o.dst (.map (some b))) w1) : wpList Tryz.prog ops Q (o :: rest) a W := by
  refine wpList_plain hgd fun K' hK' => ?_
  unfold Oper.wp
  simp [execOp, hop, run_makeMap, Result.andThen]
  exact hK' _ _ (h _ _ rfl ⟨_, World.ownsMap_made W _ _ _, DepD.nil⟩ (below_alloc (Below.refl _ _) _))
theorem Dep.put {w : World} {bm : Nat} {q : List (List Int × Int)} (h : Dep w bm q) {x : List Int} {d : Int} (hx : ordOk x = true) (hn : q.any (fun e => decide (e.1 = x)) = false) (hq : q.length < 10000) (hd : (Lit.int .i64 d).wf = true) :
    ∃ w', (Instr.mapUpdate 63 (.map (some bm)) (.string (keyB x)) (.int .i64 d)).run Tryz.prog w = .ok () w' ∧ Dep w' bm (q ++ [(x, d)]) ∧ w.grownBy w' (some bm) := by
  obtain ⟨D, h1, h2⟩ := h
  obtain ⟨w', r1, r2, r3⟩ := h1.update str_keyed Tryz.underlying63 (Nat.lt_trans hq (by decide)) (keyOf_str hx) (plainElem_int Tryz.underlying3 hd)
  exact ⟨w', r1, ⟨_, by rw [List.length_append]; exact r2, h2.put hx hn⟩, r3⟩
theorem dep_put (m y v : Operand) (hop : o.op = .insert 63 m y v ∨ o.op = .mapUpdate 63 m y v) (hgd : o.guard = none) (bm : Nat) (q : List (List Int × Int)) (x : List Int) (d : Int) (hm : a.eval m = .map (some bm)) (hy : a.eval y = .string (keyB x)) (hv : a.eval v = .int .i64 d)
    (hD : Dep W bm q) (hx : ordOk x = true) (hn : q.any (fun e => decide (e.1 = x)) = false) (hq : q.length < 10000) (hd : (Lit.int .i64 d).wf = true) (h : ∀ w1, Dep w1 bm (q ++ [(x, d)]) → W.grownBy w1 (some bm) → wpList Tryz.prog ops Q rest (a.put o.dst undef) w1) : wpList Tryz.prog ops Q (o :: rest) a W := by
  refine wpList_plain hgd fun K' hK' => ?_
  obtain ⟨w', r1, r2, r3⟩ := hD.put hx hn hq hd
  unfold Oper.wp
  rcases hop with hop | hop <;> (simp [execOp, hop, hm, hy, hv, r1, Result.andThen]; exact hK' _ _ (h w' r2 r3))
theorem zero_int (w : World) : (zeroValue 3).run Tryz.prog w = .ok (.int .i64 0) w := by kernel_rfl
theorem dep_look (m y : Operand) (hop : o.op = .lookup 63 m y false) (hgd : o.guard = none) (bm : Nat) (q : List (List Int × Int)) (x : List Int) (hm : a.eval m = .map (some bm)) (hy : a.eval y = .string (keyB x)) (hD : Dep W bm q) (hx : ordOk x = true)
    (h : wpList Tryz.prog ops Q rest (a.put o.dst (.int .i64 (lookD q x))) W) : wpList Tryz.prog ops Q (o :: rest) a W := by
  obtain ⟨D, h1, h2⟩ := hD
  refine wpList_lookup_own_int W hgd m y 63 hop 9 3 .i64 str_keyed Tryz.underlying63 Tryz.underlying3 (zero_int W) bm _ D hm h1 _ _ hy (keyOf_str hx) (fun c hc _ => ?_)
  rw [h2.look hx] at hc
  injection hc with hc
  injection hc with _ hc
  rw [← hc]
  exact h
theorem dep_look_ok (m y : Operand) (hop : o.op = .lookup 63 m y true) (hgd : o.guard = none) (bm : Nat) (q : List (List Int × Int)) (x : List Int) (hm : a.eval m = .map (some bm)) (hy : a.eval y = .string (keyB x)) (hD : Dep W bm q) (hx : ordOk x = true)
    (h : wpList Tryz.prog ops Q rest (a.put o.dst (.tuple #[.int .i64 (lookD q x), .bool (q.any fun e => decide (e.1 = x))])) W) : wpList Tryz.prog ops Q (o :: rest) a W := by
  obtain ⟨D, h1, h2⟩ := hD
  refine wpList_lookup_own_ok_int W hgd m y 63 hop 9 3 .i64 str_keyed Tryz.underlying63 Tryz.underlying3 (zero_int W) bm _ D hm h1 _ _ hy (keyOf_str hx) (fun c hc _ => ?_)
  rw [h2.look hx] at hc
  injection hc with hc
  injection hc with _ hc
  rw [← hc, h2.2.1 x hx]
  exact h
end
/-- an order of the queue: where it stands, and what it leads to -/
theorem q_at {W : World} {base : Nat} {ok : Nat → Prop} {A : Option Addr} {n cap : Nat} {xs : List (List Int)} {p : List Int} (h : Kd.N (Kd.slice 3 (Kd.int .i64)) 24 W base ok (.slice A n cap) xs) (i : Nat) (hi : xs[i]? = some p) :
    ∃ ad A' c', A = some ad ∧ W.cell? (ad.add i) = some (.slice A' p.length c') ∧ Kd.V (Kd.int .i64) 3 W base (fun k => ok k ∧ some k ≠ (Value.slice A n cap).ownBlock) (.slice A' p.length c') p := by
  obtain ⟨hi, rfl⟩ := List.getElem?_eq_some_iff.1 hi
  have hn := (Kd.N_reads' h).1
  obtain ⟨g, cap', e1, _, _, _⟩ := Kd.N_form h (by omega)
  injection e1 with e1 e2 e3
  subst e1
  obtain ⟨c, hcl, hF, hcc⟩ := Kd.N_get h [] (i : Int) (by omega) (by omega)
  have ex : xs.getD (i : Int).toNat [] = xs[i] := by simp [hi]
  rw [ex] at hF
  obtain ⟨A', c', rfl, hl, hC⟩ := Kd.FK_now hF
  have hx := hcc 0 _ rfl
  rw [show (i : Int).toNat * (Kd.slice 3 (Kd.int .i64)).sz + 0 = i by show (i : Int).toNat * 1 + 0 = i; omega] at hx
  refine ⟨_, A', c', rfl, hx, Kd.V_mk hl (fun W' hW => ?_)⟩
  obtain ⟨A2, c2, e, _, hC2⟩ := hF W' hW
  injection e with e _
  injection e with e _ _
  subst e
  exact hC2
theorem l_at {W : World} {A : Option Addr} {n : Nat} {xs : List (List Int)} {p : List Int} (h : Kd.C (Kd.slice 3 (Kd.int .i64)) W A n xs) (i : Nat) (hi : xs[i]? = some p) :
    ∃ ad A' c', A = some ad ∧ W.cell? (ad.add i) = some (.slice A' p.length c') ∧ p.length ≤ c' ∧ Kd.C (Kd.int .i64) W A' p.length p := by
  obtain ⟨hi, rfl⟩ := List.getElem?_eq_some_iff.1 hi
  obtain ⟨ad, c, e, hcl, hK, hcc⟩ := Kd.C_get h [] (i : Int) (by omega) (by have := h.1; omega)
  have ex : xs.getD (i : Int).toNat [] = xs[i] := by simp [hi]
  rw [ex] at hK
  obtain ⟨A', c', rfl, hl, hC⟩ := hK
  have hx := hcc 0 _ rfl
  rw [show (i : Int).toNat * (Kd.slice 3 (Kd.int .i64)).sz + 0 = i by show (i : Int).toNat * 1 + 0 = i; omega] at hx
  exact ⟨ad, A', c', e, hx, hl, hC⟩
theorem q_fk {W : World} {base : Nat} {ok : Nat → Prop} {A : Option Addr} {c : Nat} {p : List Int} (h : Kd.V (Kd.int .i64) 3 W base ok (.slice A p.length c) p) : Kd.FK (Kd.slice 3 (Kd.int .i64)) W ok p [.slice A p.length c] := fun W' hW => ⟨A, c, rfl, (Kd.V_reads' h).2.1, Kd.V_F h W' hW⟩
theorem DepD.own {D : DataW Unit} {q : List (List Int × Int)} (h : DepD D q) {e : List Int × Int} {i : Nat} (he : q[i]? = some e) : lookD q e.1 = e.2 := by
  have h1 := h.look (h.2.2.1 e (List.mem_of_getElem? he)).1
  rw [(h.2.2.1 e (List.mem_of_getElem? he)).2] at h1
  injection h1 with h1
  injection h1 with _ h1
  exact h1.symm
theorem Dep.own {w : World} {bm : Nat} {q : List (List Int × Int)} (h : Dep w bm q) {e : List Int × Int} {i : Nat} (he : q[i]? = some e) : lookD q e.1 = e.2 := by
  obtain ⟨D, _, h2⟩ := h
  exact h2.own he
theorem lvl_few : ∀ m, m ≤ 5 → (lvl m 8 0 []).length ≤ 1000 := by decide +kernel
theorem impl_depths.calls (k : Nat) (a0 : Int) (r : List (List Int × Int)) (w : World) (h : impl_depths.f k a0 = some r) :
 Calls Tryz.prog 47 #[.int .i64 a0] w fun e w' => ∃ bm, e = .returned (.map (some bm)) ∧ w.heap.size ≤ bm ∧ Dep w' bm r ∧ Below w.heap.size w w' := by
 unfold impl_depths.f at h;by_cases hn : 2 ≤ a0 ∧ a0 ≤ 6
 case neg => rw [if_neg hn] at h; cases h
 rw [if_pos hn] at h;replace h := Option.bind_eq_some_iff.mp h;obtain ⟨p, hp, h⟩ := h;by_cases hk : keyOk k p = true
 case neg => rw [if_neg hk] at h; cases h
 rw [if_pos hk] at h;obtain ⟨n, rfl⟩ : ∃ n : Nat, a0 = n := ⟨a0.toNat, by omega⟩;rw [show ((n : Int).toNat - 1) = n - 1 by omega] at h;obtain ⟨ls, hls⟩ : ∃ ls, ls = lvl (n - 1) 8 0 [] := ⟨_, rfl⟩;rw [← hls] at h;have HL := Lib.hid (lvl_few (n - 1) (by omega))
 have hN : 2 ≤ n ∧ n ≤ 8 := by omega
 have HN := Lib.hid hN;have HLS := a_ hls;have HP := a_ hp;have HK := a_ (keyOk_ok hk);have H' := a_ h;clear hn hp hk h hls hN;go_enter Tryz.func47, Tryz.ntmps47
 go_wp2_with (first | ((with_reducible refine gate_callee (f := 50) rfl ?_); refine goesL_ (some 14) rfl rfl Tryz.func50 (by kernel_rfl) rfl #[.int .i64 (n : Int), .slice none ([] : List Int).length 0, .int .i64 ((0 : Nat) : Int), .slice none 0 0] rfl (by (try simp only [List.map_toArray, List.map_cons, List.map_nil]); first | done | rfl | (simp only [List.length_drop, List.length_take]; rfl)) ?_; refine (allLevels_gen n HN.out.1 HN.out.2 8 0 none 0 [] (.slice none 0 0) [] (fun _ => False) (fun _ => False) w _ (by omega) (by have := HN.out; omega) (by simp) (by have := HL.out; simp; omega) (Below.refl _ _) (Kd.R_nil _ _ _ _ _) (Kd.S_nil _ _ _ _ _) (fun _ h => h.elim)).mono ?_; rintro e w1 ⟨v1, rfl, hS, hb, _, _⟩; refine ⟨_, rfl, ?_⟩; obtain ⟨A1, c1, ev1⟩ := Kd.S_slice hS; subst ev1; have HC1 := a_ (Kd.S_reads' hS).2.2; have HB0 := a_ hb; clear hS hb; simp only [List.nil_append] at HC1; rw [← HLS.out] at HC1; simp only [List.nil_append]; simp only [← HLS.out]) | ((with_reducible refine gate_callee (f := 81) rfl ?_); refine goesL_ (some 16) rfl rfl Tryz.func81 (by kernel_rfl) rfl #[.int .i64 (n : Int)] rfl (by (try simp only [List.map_toArray, List.map_cons, List.map_nil]); first | done | rfl) ?_; (with_reducible refine (impl_identity.calls k (n : Int) p _ HP.out).mono ?_); rintro e w2 ⟨v2, rfl, hR, hb⟩; refine ⟨_, rfl, ?_⟩; obtain ⟨A2, c2, ev2⟩ := Kd.R_slice hR; subst ev2; have HR2 := a_ hR; have HB := a_ hb; clear hR hb) | ((with_reducible refine gate_dst (N := 17) rfl ?_); refine Kd.R_lit (Kd.slice 3 (Kd.int .i64)) w1.heap.size 24 ?hg (N := 17) ?hd (xs := [p]) (inner := [.slice A2 p.length c2]) (ok := fun _ => True) (okp := fun _ => True) ?hr ?hp (fun _ hk => hk) trivial HB.out HB.out.size (by simp) ?_; (case hd => rfl); (case hg => rfl); (case hr => first | (go_simp; done) | (go_simp; rfl)); (case hp => exact (Reps.one (show Kd.M (Kd.slice 3 (Kd.int .i64)) _ _ _ p [.slice A2 p.length c2] from ⟨_, rfl, HR2.out⟩) (Reps.none _ _))); intro v3 w3 ho3 hb hg_ hnew_; clear hg_ hnew_; obtain ⟨A3, c3, ev3⟩ := Kd.R_slice ho3; subst ev3; have HQ := a_ (Kd.R_N ho3); replace HB := a_ hb; clear ho3 hb) | ((with_reducible refine gate_dst (N := 18) rfl ?_); refine dep_made rfl rfl ?_; intro bm w4 hbm hD hb; have HD := a_ hD; replace HQ := a_ (Kd.N_below (Kd.N_elderB HQ.out bm (by rw [hbm]; exact Nat.le_refl _)) hb); have HBM := a_ (show w1.heap.size ≤ bm by rw [hbm]; exact HB.out.size); replace HB := a_ (below_step HB.out hb); clear hbm hb hD; obtain ⟨ad3, A4, c4, e4, hx4, hv4⟩ := q_at HQ.out 0 rfl; cases e4; rw [Addr.add_zero'] at hx4; have HV4 := a_ hv4; clear hv4; simp only [List.length_singleton] at HV4) | ((with_reducible refine gate_callee (f := 48) rfl ?_); refine goesL_ (some 22) rfl rfl Tryz.func48 (by kernel_rfl) rfl #[.slice A4 p.length c4] rfl (by (try simp only [List.map_toArray, List.map_cons, List.map_nil]); first | done | rfl) ?_; (with_reducible refine (impl_orderKey.calls k A4 c4 p (keyB p) _ (Kd.V_reads' HV4.out).2.2 (Kd.V_reads' HV4.out).2.1 HK.out.2).mono ?_); rintro e w5 ⟨rfl, hb⟩; refine ⟨_, rfl, ?_⟩; replace HQ := a_ (Kd.N_below HQ.out hb); replace HD := a_ (HD.out.below hb); replace HB := a_ (below_step HB.out hb); clear hb) | ((with_reducible refine gate_ (.insert 63 (.tmp 18) (.tmp 22) (.const (.int .i64 0))) rfl ?_); refine dep_put (.tmp 18) (.tmp 22) (.const (.int .i64 0)) (.inl rfl) rfl bm [] p 0 rfl rfl rfl HD.out HK.out.1 rfl (by decide) (by decide) ?_; intro w6 hD hg; replace HD := a_ hD; replace HQ := a_ (Kd.N_grown HQ.out hg (fun k_ hk_ e_ => hk_.2 (by injection e_))); replace HB := a_ (pw_below_grown HB.out (some bm) HB.out.size hg (by intro k e; injection e with e; rw [← e]; exact HBM.out)); clear hD hg))
 go_loopg [4, 6] k (fun gg v4 v6 wr => ∃ (i : Nat) (q : List (List Int × Int)), v6 = .int .i64 (i : Int) ∧ Aside0 (depL k ls gg i q = some r) ∧ i ≤ q.length ∧ Aside0 (Kd.N (Kd.slice 3 (Kd.int .i64)) 24 wr w1.heap.size (fun k_ => True ∧ k_ ≠ bm) v4 (q.map (·.1))) ∧ Aside0 (Dep wr bm q) ∧ Aside0 (Below w1.heap.size w1 wr))
 case atStart => exact ⟨0, [(p, 0)], rfl, H', by simp, HQ, HD, HB⟩
 case round =>
  clear H' HQ HD HB hx4 HV4 HR2;obtain ⟨i, q, rfl, HF, hi, HQ, HD, HB⟩ := hrel;obtain ⟨wq, hwq⟩ : ∃ wq : World, wq = wr := ⟨_, rfl⟩;obtain ⟨Aq, cq, eq⟩ := Kd.N_slice HQ.out;subst eq;obtain ⟨qs, hqs⟩ : ∃ qs, qs = q.map (·.1) := ⟨_, rfl⟩;rw [← hqs] at HQ ⊢
  have hql : qs.length = q.length := by rw [hqs]; simp
  cases gk with
  | zero => have hF := HF.out; simp [depL] at hF
  | succ gg =>
   have hF := HF.out;clear HF;simp only [depL] at hF
   cases he : q[i]? with
   | none =>
    rw [he] at hF;obtain rfl := Option.some.inj hF;have hnl := List.getElem?_eq_none_iff.1 he;have c1 : decide ((i : Int) < (qs.length : Int)) = false := decide_eq_false (by omega);have c2 : decide (i < qs.length) = false := decide_eq_false (by omega);clear hF he hnl hi hql hqs hwq;go_wp2;go_ret;exact ⟨bm, rfl, Nat.le_trans HB0.out.size HBM.out, HD.out, below_step HB0.out HB.out⟩
   | some e =>
    rw [he] at hF;simp only at hF;by_cases hk : keyOk k e.1 = true ∧ i < 10000
    case neg => rw [if_neg hk] at hF; cases hF
    rw [if_pos hk] at hF;replace hF := Option.bind_eq_some_iff.mp hF;obtain ⟨q', hq', hF⟩ := hF;have hlt : i < q.length := (List.getElem?_eq_some_iff.1 he).1
    have hqi : qs[i]? = some e.1 := by rw [hqs, List.getElem?_map, he]; rfl
    obtain ⟨ad, Ap, cp, ea, hx, hv⟩ := q_at HQ.out i hqi
    cases ea
    have c1 : decide ((i : Int) < (qs.length : Int)) = true := decide_eq_true (by omega);have p1 : (0 ≤ (i : Int)) = True := eq_true (by omega);have q1 : ((i : Int) < (qs.length : Int)) = True := eq_true (by omega);have HO := a_ (HD.out.own he);have HV := a_ hv;have HK := a_ (keyOk_ok hk.1);have HI := Lib.hid hk.2;have HE := a_ he;have HR := a_ hF;have HIN := a_ hq';have HQS := a_ hqs;have HQL := Lib.hid hql;clear he hF hk hlt hqi hv hq' hql hqs hi hwq;go_wp2_with (first | ((with_reducible refine gate_callee (f := 48) rfl ?_); refine goesL_ (some 35) rfl rfl Tryz.func48 (by kernel_rfl) rfl #[.slice Ap e.1.length cp] rfl (by (try simp only [List.map_toArray, List.map_cons, List.map_nil]); first | done | rfl) ?_; (with_reducible refine (impl_orderKey.calls k Ap cp e.1 (keyB e.1) _ (Kd.V_reads' HV.out).2.2 (Kd.V_reads' HV.out).2.1 HK.out.2).mono ?_); rintro ee w7 ⟨rfl, hb⟩; refine ⟨_, rfl, ?_⟩; replace HQ := a_ (Kd.N_below HQ.out hb); replace HD := a_ (HD.out.below hb); replace HB := a_ (below_step HB.out hb); clear hb hx) | ((with_reducible refine gate_ (.lookup 63 (.tmp 30) (.tmp 35) false) rfl ?_); refine dep_look (.tmp 30) (.tmp 35) rfl rfl bm q e.1 rfl rfl HD.out HK.out.1 ?_; rw [HO.out]));clear HV p1 q1 c1;go_loopg [4, 39] ls.length (fun gh v4 v39 wr => ∃ (j : Nat) (q2 : List (List Int × Int)), v39 = .int .i64 (j : Int) ∧ Aside0 (depIn k e.1 (wrap64 (e.2 + 1)) (ls.drop j) q2 = some q') ∧ Aside0 (q2[i]? = some e) ∧ j ≤ ls.length ∧ ls.length - j ≤ gh ∧ Aside0 (Kd.N (Kd.slice 3 (Kd.int .i64)) 24 wr w1.heap.size (fun k_ => True ∧ k_ ≠ bm) v4 (q2.map (·.1))) ∧ Aside0 (Dep wr bm q2) ∧ Aside0 (Below w1.heap.size w1 wr))
    case atStart => exact ⟨0, q, rfl, ⟨by rw [List.drop_zero]; exact HIN.out⟩, HE, Nat.zero_le _, by omega, ⟨by rw [← HQS.out]; exact HQ.out⟩, HD, HB⟩
    case round =>
     clear HQ HD HB HIN HE HQS HQL HO;obtain ⟨j, q2, rfl, HIN, HE, hj, hgh, HQ, HD, HB⟩ := hrel;obtain ⟨Aq2, cq2, eq2⟩ := Kd.N_slice HQ.out;subst eq2;obtain ⟨qs2, hqs2⟩ : ∃ qs, qs = q2.map (·.1) := ⟨_, rfl⟩;rw [← hqs2] at HQ ⊢
     have hql2 : qs2.length = q2.length := by rw [hqs2]; simp
     by_cases hjl : j < ls.length
     ·have hlj : ls[j]? = some ls[j] := List.getElem?_eq_getElem hjl;obtain ⟨lv, hlv⟩ : ∃ lv, lv = ls[j] := ⟨_, rfl⟩;rw [← hlv] at hlj;have hI := HIN.out;rw [List.drop_eq_getElem_cons hjl, ← hlv] at hI;simp only [depIn] at hI;replace hI := Option.bind_eq_some_iff.mp hI;obtain ⟨x, hx1, hI⟩ := hI;by_cases hk2 : keyOk k x = true ∧ q2.length < 10000
      case neg => rw [if_neg hk2] at hI; cases hI
      rw [if_pos hk2] at hI
      have hqi2 : qs2[i]? = some e.1 := by rw [hqs2, List.getElem?_map, HE.out]; rfl
      have hil : i < q2.length := (List.getElem?_eq_some_iff.1 HE.out).1;obtain ⟨ad2, Ap2, cp2, ea2, hx2, hv2⟩ := q_at HQ.out i hqi2
      cases ea2
      obtain ⟨adl, Al, cl, eal, hxl, hcl, hCl⟩ := l_at (Kd.C_below HC1.out HB.out) j hlj
      cases eal
      have c1 : decide ((j : Int) < (ls.length : Int)) = true := decide_eq_true (by omega);have p1 : (0 ≤ (i : Int)) = True := eq_true (by omega);have q1 : ((i : Int) < (qs2.length : Int)) = True := eq_true (by omega);have p2 : (0 ≤ (j : Int)) = True := eq_true (by omega);have q3 : ((j : Int) < (ls.length : Int)) = True := eq_true (by omega)
      have hgh' : ls.length - (j + 1) ≤ gk - 1 ∧ gk - 1 < gk := by omega
      have HVP : Aside0 (Kd.V (Kd.int .i64) 3 wr wr.heap.size (fun k_ => (True ∧ k_ ≠ bm) ∧ some k_ ≠ (Value.slice (some ad2) qs2.length cq2).ownBlock) (.slice Ap2 e.1.length cp2) e.1) := ⟨hv2⟩;have HCL := a_ hCl;have HCC := a_ hcl;have HX := a_ hx1;have HKX := a_ (keyOk_ok hk2.1);have HQN := Lib.hid hk2.2;have HREST := a_ hI;have HQS2 := a_ hqs2;have HJ := Lib.hid hjl;have HG := Lib.hid hgh';have HWJ := Lib.hid (show wrap64 ((j : Int) + 1) = ((j + 1 : Nat) : Int) by have := HL.out; rw [← HLS.out] at this; unfold wrap64; omega);have HQ2L := Lib.hid hql2;clear hlj hlv hI hk2 hqi2 hil hv2 hCl hcl hx1 hjl hgh hj HIN hqs2 hql2 hgh';have HWF := a_ (show (Lit.int .i64 (wrap64 (e.2 + 1))).wf = true from by simp [Lit.wf, IntKind.min, IntKind.max, IntKind.bits, IntKind.signed]; unfold wrap64; omega)
      cases hmet : q2.any (fun e => decide (e.1 = x)) with
      | true =>
       go_wp2_with (first | ((with_reducible refine gate_callee (f := 51) rfl ?_); refine goesL_ (some 48) rfl rfl Tryz.func51 (by kernel_rfl) rfl #[.slice Ap2 e.1.length cp2, .slice Al lv.length cl] rfl (by (try simp only [List.map_toArray, List.map_cons, List.map_nil]); first | done | rfl) ?_; (with_reducible refine (impl_laid.calls k _ Ap2 cp2 e.1 Al cl lv x _ HVP.out HCL.out HCC.out HX.out).mono ?_); rintro ee w7 ⟨v7, rfl, hV, hb⟩; refine ⟨_, rfl, ?_⟩; obtain ⟨Ax, cx, ex⟩ := Kd.V_slice hV; subst ex; have HVX := a_ (Kd.V_mono hV (fun k_ h_ => h_.elim id (fun hn => (⟨⟨trivial, fun e_ => by have := HD.out.lt; omega⟩, fun e_ => by have := Kd.N_lt HQ.out k_ e_.symm; omega⟩ : (True ∧ k_ ≠ bm) ∧ some k_ ≠ (Value.slice (some ad2) qs2.length cq2).ownBlock)))); replace HQ := a_ (Kd.N_below HQ.out hb); replace HD := a_ (HD.out.below hb); replace HB := a_ (below_step HB.out hb); clear hb hV hx2 hxl HVP) | ((with_reducible refine gate_callee (f := 48) rfl ?_); refine goesL_ (some 52) rfl rfl Tryz.func48 (by kernel_rfl) rfl #[.slice Ax x.length cx] rfl (by (try simp only [List.map_toArray, List.map_cons, List.map_nil]); first | done | rfl) ?_; (with_reducible refine (impl_orderKey.calls k Ax cx x (keyB x) _ (Kd.V_reads' HVX.out).2.2 (Kd.V_reads' HVX.out).2.1 HKX.out.2).mono ?_); rintro ee w8 ⟨rfl, hb⟩; refine ⟨_, rfl, ?_⟩; replace HQ := a_ (Kd.N_below HQ.out hb); replace HD := a_ (HD.out.below hb); replace HVX := a_ (Kd.V_below HVX.out hb); replace HB := a_ (below_step HB.out hb); clear hb) | ((with_reducible refine gate_ (.lookup 63 (.tmp 50) (.tmp 52) true) rfl ?_); refine dep_look_ok (.tmp 50) (.tmp 52) rfl rfl bm q2 x rfl rfl HD.out HKX.out.1 ?_; rw [hmet]));go_roundg (gk - 1)
       case measure => exact HG.out.2
       case rel => exact ⟨j + 1, q2, (by rw [HWJ.out]), ⟨by have h_ := HREST.out; unfold putD at h_; rw [if_pos hmet] at h_; exact h_⟩, HE, HJ.out, HG.out.1, ⟨by rw [← HQS2.out]; exact HQ.out⟩, HD, HB⟩
      | false =>
       go_wp2_with (first | ((with_reducible refine gate_callee (f := 51) rfl ?_); refine goesL_ (some 48) rfl rfl Tryz.func51 (by kernel_rfl) rfl #[.slice Ap2 e.1.length cp2, .slice Al lv.length cl] rfl (by (try simp only [List.map_toArray, List.map_cons, List.map_nil]); first | done | rfl) ?_; (with_reducible refine (impl_laid.calls k _ Ap2 cp2 e.1 Al cl lv x _ HVP.out HCL.out HCC.out HX.out).mono ?_); rintro ee w7 ⟨v7, rfl, hV, hb⟩; refine ⟨_, rfl, ?_⟩; obtain ⟨Ax, cx, ex⟩ := Kd.V_slice hV; subst ex; have HVX := a_ (Kd.V_mono hV (fun k_ h_ => h_.elim id (fun hn => (⟨⟨trivial, fun e_ => by have := HD.out.lt; omega⟩, fun e_ => by have := Kd.N_lt HQ.out k_ e_.symm; omega⟩ : (True ∧ k_ ≠ bm) ∧ some k_ ≠ (Value.slice (some ad2) qs2.length cq2).ownBlock)))); replace HQ := a_ (Kd.N_below HQ.out hb); replace HD := a_ (HD.out.below hb); replace HB := a_ (below_step HB.out hb); clear hb hV hx2 hxl HVP) | ((with_reducible refine gate_callee (f := 48) rfl ?_); refine goesL_ (some 52) rfl rfl Tryz.func48 (by kernel_rfl) rfl #[.slice Ax x.length cx] rfl (by (try simp only [List.map_toArray, List.map_cons, List.map_nil]); first | done | rfl) ?_; (with_reducible refine (impl_orderKey.calls k Ax cx x (keyB x) _ (Kd.V_reads' HVX.out).2.2 (Kd.V_reads' HVX.out).2.1 HKX.out.2).mono ?_); rintro ee w8 ⟨rfl, hb⟩; refine ⟨_, rfl, ?_⟩; replace HQ := a_ (Kd.N_below HQ.out hb); replace HD := a_ (HD.out.below hb); replace HVX := a_ (Kd.V_below HVX.out hb); replace HB := a_ (below_step HB.out hb); clear hb) | ((with_reducible refine gate_ (.lookup 63 (.tmp 50) (.tmp 52) true) rfl ?_); refine dep_look_ok (.tmp 50) (.tmp 52) rfl rfl bm q2 x rfl rfl HD.out HKX.out.1 ?_; rw [hmet]) | ((with_reducible refine gate_callee (f := 48) rfl ?_); refine goesL_ (some 60) rfl rfl Tryz.func48 (by kernel_rfl) rfl #[.slice Ax x.length cx] rfl (by (try simp only [List.map_toArray, List.map_cons, List.map_nil]); first | done | rfl) ?_; (with_reducible refine (impl_orderKey.calls k Ax cx x (keyB x) _ (Kd.V_reads' HVX.out).2.2 (Kd.V_reads' HVX.out).2.1 HKX.out.2).mono ?_); rintro ee w9 ⟨rfl, hb⟩; refine ⟨_, rfl, ?_⟩; replace HQ := a_ (Kd.N_below HQ.out hb); replace HD := a_ (HD.out.below hb); replace HVX := a_ (Kd.V_below HVX.out hb); replace HB := a_ (below_step HB.out hb); clear hb) | ((with_reducible refine gate_ (.mapUpdate 63 (.tmp 58) (.tmp 60) (.tmp 62)) rfl ?_); refine dep_put (.tmp 58) (.tmp 60) (.tmp 62) (.inr rfl) rfl bm q2 x (wrap64 (e.2 + 1)) rfl rfl rfl HD.out HKX.out.1 hmet HQN.out HWF.out ?_; intro w10 hD hg; replace HD := a_ hD; replace HQ := a_ (Kd.N_grown HQ.out hg (fun k_ hk_ e_ => hk_.2 (by injection e_))); replace HVX := a_ (Kd.V_step HVX.out (fun k_ h_ hl_ => hg.block k_ hl_ (fun e_ => h_.1.2 (by injection e_)))); replace HB := a_ (pw_below_grown HB.out (some bm) HB.out.size hg (by intro k e; injection e with e; rw [← e]; exact HBM.out)); clear hD hg) | ((with_reducible refine gate_builtin (b := .append) (xs := #[.tmp 63, .tmp 65]) rfl ?_); at_builtin; refine Kd.N_append (Kd.slice 3 (Kd.int .i64)) (w0 := w1) w1.heap.size rfl (.tmp 63) (.tmp 65) 28 24 (.slice none 0 0) 24 rfl Tryz.underlying28 info24 rfl (by decide) (by omega) (.slice (some ad2) qs2.length cq2) qs2 x [.slice Ax x.length cx] (fun k_ => True ∧ k_ ≠ bm) (fun k_ => (True ∧ k_ ≠ bm) ∧ some k_ ≠ (Value.slice (some ad2) qs2.length cq2).ownBlock) rfl rfl (q_fk HVX.out) (fun _ h => h) (fun k_ hk_ => ⟨trivial, fun e_ => by have := HD.out.lt; omega⟩) HQ.out HB.out HB.out.size (by have := HQN.out; have := HQ2L.out; omega) ?_; intro v11 w11 hN hb hg hat; replace HD := a_ (HD.out.kept hg (fun e_ => (HQ.out.1 bm e_.symm).2 rfl)); replace HQ := a_ hN; replace HB := a_ hb; clear hN hb hg hat))
       go_roundg (gk - 1)
       case measure => exact HG.out.2
       case rel => exact ⟨j + 1, q2 ++ [(x, wrap64 (e.2 + 1))], (by rw [HWJ.out]), ⟨by have h_ := HREST.out; unfold putD at h_; rw [if_neg (by rw [hmet]; simp)] at h_; exact h_⟩, ⟨by rw [List.getElem?_append_left (List.getElem?_eq_some_iff.1 HE.out).1]; exact HE.out⟩, HJ.out, HG.out.1, ⟨by rw [List.map_append, ← HQS2.out]; exact HQ.out⟩, HD, HB⟩
     ·have c1 : decide ((j : Int) < (ls.length : Int)) = false := decide_eq_false (by omega);have c2 : decide (j < ls.length) = false := decide_eq_false (by omega);have hI := HIN.out;rw [List.drop_of_length_le (by omega)] at hI;simp only [depIn] at hI;obtain rfl := Option.some.inj hI;have HWI := Lib.hid (show wrap64 ((i : Int) + 1) = ((i + 1 : Nat) : Int) by have := HI.out; unfold wrap64; omega);have HIL := Lib.hid (show i + 1 ≤ q2.length from (List.getElem?_eq_some_iff.1 HE.out).1);have HQS2 := a_ hqs2;clear hI hjl hj hgh HIN hqs2 hql2;go_wp2;go_roundg gg
      case measure => exact Nat.lt_succ_self _
      case rel => exact ⟨i + 1, q2, (by rw [HWI.out]), HR, HIL.out, ⟨by rw [← HQS2.out]; exact HQ.out⟩, HD, HB⟩


/-! ### impl_LeastDepth: function 21 -/
def impl_LeastDepth.f (k : Nat) (l0 : List Int) : Option (Int × Bool) := (impl_isMade.f k l0).bind fun b => if b = true then (impl_depths.f k (l0.length : Int)).bind fun q => (if keyOk k l0 = true then some (lookD q l0, true) else none) else some (0, false)
theorem impl_LeastDepth.mono : ∀ a0 k, LeO (impl_LeastDepth.f k a0) (impl_LeastDepth.f (k + 1) a0) := fun _ _ => LeO.bind (impl_isMade.mono _ _) fun _ => LeO.ite (LeO.bind (impl_depths.mono _ _) fun _ => LeO.guard keyOk_mono (LeO.refl _)) (LeO.refl _)
theorem impl_LeastDepth.calls (k : Nat) (A0 : Option Addr) (c0 : Nat) (l0 : List Int) (r1 : Int) (r2 : Bool) (w : World) (hr0 : Kd.C (Kd.int .i64) w A0 l0.length l0) (hc0 : l0.length ≤ c0) (h : impl_LeastDepth.f k l0 = some (r1, r2)) :
 Calls Tryz.prog 21 #[.slice A0 l0.length c0] w fun e w' => e = .returned (.tuple #[.int .i64 r1, .bool r2]) ∧ Below w.heap.size w w' := by
  unfold impl_LeastDepth.f at h;replace h := Option.bind_eq_some_iff.mp h;obtain ⟨b, hb, h⟩ := h;have HR := a_ hr0;have HC := a_ hc0;have HM := a_ hb;clear hr0 hc0 hb
  cases b with
  | false =>
   rw [if_neg (by simp)] at h;simp only [Option.some.injEq, Prod.mk.injEq] at h;obtain ⟨rfl, rfl⟩ := h;go_enter Tryz.func21, Tryz.ntmps21;go_wp2_with (first | ((with_reducible refine gate_callee (f := 46) rfl ?_); refine goesL_ (some 5) rfl rfl Tryz.func46 (by kernel_rfl) rfl #[.slice A0 l0.length c0] rfl (by (try simp only [List.map_toArray, List.map_cons, List.map_nil]); first | done | rfl) ?_; (with_reducible refine (impl_isMade.calls k A0 c0 l0 false _ HR.out HC.out HM.out).mono ?_); rintro e w1 ⟨rfl, ⟨q, rfl⟩⟩; refine ⟨_, rfl, ?_⟩));go_ret2;exact ⟨rfl, pw_below_drewN (Below.refl _ _) _⟩
  | true =>
   rw [if_pos rfl] at h;replace h := Option.bind_eq_some_iff.mp h;obtain ⟨q, hq, h⟩ := h;by_cases hk : keyOk k l0 = true
   case neg => rw [if_neg hk] at h; cases h
   rw [if_pos hk] at h;simp only [Option.some.injEq, Prod.mk.injEq] at h;obtain ⟨rfl, rfl⟩ := h;have HK := a_ (keyOk_ok hk);have HQ := a_ hq;have HB := a_ (Below.refl w.heap.size w);clear hk hq;go_enter Tryz.func21, Tryz.ntmps21;go_wp2_with (first | ((with_reducible refine gate_callee (f := 46) rfl ?_); refine goesL_ (some 5) rfl rfl Tryz.func46 (by kernel_rfl) rfl #[.slice A0 l0.length c0] rfl (by (try simp only [List.map_toArray, List.map_cons, List.map_nil]); first | done | rfl) ?_; (with_reducible refine (impl_isMade.calls k A0 c0 l0 true _ HR.out HC.out HM.out).mono ?_); rintro e w1 ⟨rfl, ⟨qq, rfl⟩⟩; refine ⟨_, rfl, ?_⟩; replace HR := a_ (Kd.C_drewN HR.out qq); replace HB := a_ (pw_below_drewN HB.out qq)) | ((with_reducible refine gate_callee (f := 47) rfl ?_); refine goesL_ (some 9) rfl rfl Tryz.func47 (by kernel_rfl) rfl #[.int .i64 (l0.length : Int)] rfl (by (try simp only [List.map_toArray, List.map_cons, List.map_nil]); first | done | rfl) ?_; (with_reducible refine (impl_depths.calls k (l0.length : Int) q _ HQ.out).mono ?_); rintro e w2 ⟨bm, rfl, hbm, hD, hb⟩; refine ⟨_, rfl, ?_⟩; have HD := a_ hD; replace HR := a_ (Kd.C_below HR.out hb); replace HB := a_ (below_step HB.out hb); clear hbm hD hb) | ((with_reducible refine gate_callee (f := 48) rfl ?_); refine goesL_ (some 11) rfl rfl Tryz.func48 (by kernel_rfl) rfl #[.slice A0 l0.length c0] rfl (by (try simp only [List.map_toArray, List.map_cons, List.map_nil]); first | done | rfl) ?_; (with_reducible refine (impl_orderKey.calls k A0 c0 l0 (keyB l0) _ HR.out HC.out HK.out.2).mono ?_); rintro e w3 ⟨rfl, hb⟩; refine ⟨_, rfl, ?_⟩; replace HD := a_ (HD.out.below hb); replace HB := a_ (below_step HB.out hb); clear hb) | ((with_reducible refine gate_ (.lookup 63 (.tmp 9) (.tmp 11) false) rfl ?_); refine dep_look (.tmp 9) (.tmp 11) rfl rfl bm q l0 rfl rfl HD.out HK.out.1 ?_));go_ret2;exact ⟨rfl, HB.out⟩


/-! ### spec_l1Own: function 90 -/
def spec_l1Own.f (l0 : List Int) : Option (List Int) := (some (([] : List Int) : List Int)).bind fun y461 => (if y461.length + l0.length < 17592186044416 then (some (y461 ++ l0)) else (none))
theorem spec_l1Own.calls (A0 : Option Addr) (c0 : Nat) (l0 : List Int) (r : List Int) (w : World) (hr0 : Kd.C (Kd.int .i64) w A0 l0.length l0) (hc0 : l0.length ≤ c0) (h : spec_l1Own.f l0 = some r) :
 Calls Tryz.prog 90 #[.slice A0 l0.length c0] w fun e w' => ∃ v0_ : Value, e = .returned (v0_) ∧ Kd.R (Kd.int .i64) 3 w' w.heap.size (fun _ => True) v0_ r ∧ Below w.heap.size w w' := by
 have HR0 := a_ hr0;have HC0 := a_ hc0;clear hr0 hc0;have HB := a_ (Below.refl w.heap.size w);have H := h;unfold spec_l1Own.f at H;clear h;(first | obtain ⟨y461, Ny461, H⟩ := ya_ (x := (([] : List Int))) H | (generalize hy_ : (([] : List Int)) = y461 at H;have Ny461 := a_ hy_.symm;clear hy_));obtain ⟨LMc2, H⟩ := ia_ H;generalize hy_ : (y461 ++ l0) = y464 at H;have Ny464 := a_ hy_.symm;clear hy_;obtain rfl := s1_ H;go_enter Tryz.func90, Tryz.ntmps90;go_wp2_with (first | ((with_reducible refine gate_dst (N := 3) rfl ?_); refine Kd.R_lit (Kd.int .i64) _ 3 ?hg (N := 3) ?hd (xs := ([] : List Int)) (inner := []) (ok := fun _ => True) (okp := fun _ => True) ?hr ?hp (fun _ hk => hk) trivial (Below.refl _ _) (Nat.le_refl _) (by simp) ?_; (case hd => rfl); (case hg => rfl); (case hr => first | (go_simp; done) | (go_simp; rfl)); (case hp => exact (Reps.none _ _)); intro v462 w3 ho4 hb hg_ hnew_; clear hg_ hnew_; (first | rw [← Ny461.out] at ho4 | (simp only [Int.reduceToNat] at ho4; rw [← Ny461.out] at ho4)); have HO463 := a_ (Kd.R_lower ho4 (below_size (Bl_ HB))); replace HB := Bs_ HB hb; clear hb ho4) | ((with_reducible refine gate_builtin (b := .append) (xs := #[.tmp 3, .tmp 4]) rfl ?_); at_builtin; refine Kd.R_append_rows (Kd.int .i64) (w0 := w) w.heap.size rfl (.tmp 3) (.tmp 4) 24 3 (.int .i64 0) 8 rfl Tryz.underlying24 info3 rfl (by decide) (by omega) v462 y461 l0 _ _ _ (fun _ => True) (fun _ => False) rfl rfl ?aO ?aR (fun _ _ h => h) (fun _ h => h.elim) ?aF ?aB ?aS ?aL ?_; (case aR => exact Cl_ (Kd.C_below HR0.out HB.out)); (case aB => exact (Bl_ HB)); (case aF => exact (fun _ _ => trivial)); (case aO => exact (Rl_ HO463.out)); (case aS => exact (below_size (Bl_ HB))); (case aL => have := LMc2.out; omega); intro v465 w5 ho hb hg hat; rw [← Ny464.out] at ho; replace HB := a_ (hb); have HO466 := a_ (ho); clear HO463; clear ho hb hg hat))
 go_ret;exact ⟨_, re_, Rl_ HO466.out, Bl_ HB⟩

/-! ### spec_l1Cur_sureOrder: function 87 -/
def spec_l1Cur_sureOrder.l0 : Nat → Int → List Int → Int → List Int → Int → Int → Option (List Int × Int × Int)
 | 0, _, _, _, _, _, _ => none
 | k + 1, x1, x5, x6, x1000, x1001, x1002 => if x6 < x1 then ((spec_l1Cur_pick.f x1000 x1001 x1002 (wrap64 ((x5.length : Int) + 1))).bind fun bt467 => (if 0 ≤ bt467.1 then (if bt467.1 ≤ (x5.length : Int) then ((spec_l1Own.f (x5.take (bt467.1 : Int).toNat)).bind fun t474 => (if t474.length < 17592186044416 then ((some (t474 ++ [x6] : List Int)).bind fun y477 => ((some (x5.drop (bt467.1 : Int).toNat : List Int)).bind fun y480 => (if y477.length + y480.length < 17592186044416 then (spec_l1Cur_sureOrder.l0 k x1 (y477 ++ y480) (wrap64 (x6 + 1)) x1000 bt467.2.1 bt467.2.2) else (none)))) else (none))) else (none)) else (none))) else (some (x5, x1001, x1002))
def spec_l1Cur_sureOrder.f (k : Nat) (s0_0 : List Int) (s0_1 : Int) (s0_2 : Int) (a1 : Int) : Option (List Int × Int × Int) := spec_l1Cur_sureOrder.l0 k a1 ([] : List Int) 0 s0_0 s0_1 s0_2
theorem spec_l1Cur_sureOrder.mono_l : ∀ k, (∀ y0 y1 y2 y3 y4 y5, LeO (spec_l1Cur_sureOrder.l0 k y0 y1 y2 y3 y4 y5) (spec_l1Cur_sureOrder.l0 (k + 1) y0 y1 y2 y3 y4 y5))
 | 0 => fun _ _ _ _ _ _ r h => by simp [spec_l1Cur_sureOrder.l0] at h
 | k + 1 => by
  have ih0 := spec_l1Cur_sureOrder.mono_l k
  ·intro y0 y1 y2 y3 y4 y5;unfold spec_l1Cur_sureOrder.l0;exact mo_
theorem spec_l1Cur_sureOrder.mono : ∀ a0 a1 a2 a3 k, LeO (spec_l1Cur_sureOrder.f k a0 a1 a2 a3) (spec_l1Cur_sureOrder.f (k + 1) a0 a1 a2 a3) := by
 intro a0 a1 a2 a3 k;have ih0 := spec_l1Cur_sureOrder.mono_l k;unfold spec_l1Cur_sureOrder.f;exact mo_
theorem spec_l1Cur_sureOrder.calls (k : Nat) (g : Nat) (s0_0 : List Int) (s0_1 : Int) (s0_2 : Int) (a1 : Int) (r1 : List Int) (r2 : Int) (r3 : Int) (w0 w : World) (hI : IsS51 w0 w g s0_0 s0_1 s0_2) (hB : Below w0.heap.size w0 w) (h : spec_l1Cur_sureOrder.f k s0_0 s0_1 s0_2 a1 = some (r1, r2, r3)) :
 Calls Tryz.prog 87 #[.pointer (some ⟨g, 0, none⟩), .int .i64 a1] w fun e w' => ∃ v0_ : Value, e = .returned (v0_) ∧ Kd.R (Kd.int .i64) 3 w' w.heap.size (fun _ => True) v0_ r1 ∧ IsS51 w0 w' g s0_0 r2 r3 ∧ Below w0.heap.size w0 w' ∧ KeepBut w w' g none := by
 have HI0 := a_ hI;have HK := a_ (KeepBut.refl w g none);have HL := a_ hB.size;clear hI;have HW0 := a_ hB.size;have HB := a_ hB;clear hB;have H := h;unfold spec_l1Cur_sureOrder.f at H;clear h;have H' := a_ H;clear H;go_enter Tryz.func87, Tryz.ntmps87;go_wp2;go_loopg [5, 6] k (fun kq v5 v6 w' => ∃ (x5_1 : List Int) (x6_1 : Int) (x1001_1 : Int) (x1002_1 : Int), v6 = .int .i64 x6_1 ∧ Aside0 (spec_l1Cur_sureOrder.l0 kq a1 x5_1 x6_1 s0_0 x1001_1 x1002_1 = some (r1, r2, r3)) ∧ Aside0 (kq ≤ k) ∧ Aside0 (Kd.R (Kd.int .i64) 3 w' w.heap.size (fun _ => True) v5 x5_1) ∧ Aside0 (IsS51 w0 w' g s0_0 x1001_1 x1002_1) ∧ Aside0 (KeepBut w w' g none) ∧ Aside0 (Below w0.heap.size w0 w'))
 case atStart => exact ⟨(([] : List Int)), (0), (s0_1), (s0_2), rs_, H', ⟨Nat.le_refl _⟩, ⟨nl_⟩, ⟨IsS51.go_ HI0⟩, ⟨by repeat (first | (with_reducible first | exact HK.out | apply KeepBut.set_ | apply keep_drewN | apply keep_drew | apply keep_alloc) | exact HK.out)⟩, ⟨IsS51.lo_ HB⟩⟩
 case round =>
  clear H';obtain ⟨x5_1, x6_1, x1001_1, x1002_1, rfl, HA, HK1, HO_5, HI0, HK, HB⟩ := hrel
  cases gk with
  | zero => exact absurd HA.out (by simp [spec_l1Cur_sureOrder.l0])
  | succ k1 =>
   have H := HA.out;clear HA;simp only [spec_l1Cur_sureOrder.l0] at H;rcases ib_ H with ⟨c3, H⟩ | ⟨c3, H⟩
   ·have c3b0 := decide_eq_false c3;clear c3;obtain ⟨rfl, rfl, rfl⟩ := s3_ H;go_wp2;go_ret;exact ⟨_, re_, by (with_reducible repeat (first | apply Kd.R_alloc | apply Kd.R_drewN | apply Kd.R_drew)); exact HO_5.out, IsS51.go_ HI0, IsS51.lo_ HB, by repeat (first | (with_reducible first | exact HK.out | apply KeepBut.set_ | apply keep_drewN | apply keep_drew | apply keep_alloc) | exact HK.out)⟩
   have c3b0 := decide_eq_true c3;clear c3;obtain ⟨⟨t467, t468, t469⟩, A4, H⟩ := ob_ H;(try dsimp only at H);obtain ⟨c5, H⟩ := in_ H;have c5b0 := eq_true c5;have c5b1 : decide (0 ≤ t467) = true := decide_eq_true c5;clear c5;by_cases c6 : t467 ≤ (x5_1.length : Int);rotate_left
   ·rw [if_neg c6] at H
    cases H
   rw [if_pos c6] at H;have c6b0 := eq_true c6;have c6b1 : decide (t467 ≤ (x5_1.length : Int)) = true := decide_eq_true c6;clear c6;generalize hy_ : (x5_1.take (t467 : Int).toNat) = y470 at H;have Ny470 := a_ hy_.symm;clear hy_;obtain ⟨t474, A7, H⟩ := ob_ H;(try dsimp only at H);obtain ⟨LMc8, H⟩ := ia_ H;(first | obtain ⟨y477, Ny477, H⟩ := ya_ (x := (t474 ++ [x6_1])) H | (generalize hy_ : (t474 ++ [x6_1]) = y477 at H;have Ny477 := a_ hy_.symm;clear hy_));have c9b0 := eq_true (od_ : 0 ≤ t467);have c10b0 := eq_true (od_ : t467 ≤ (x5_1.length : Int));(first | obtain ⟨y480, Ny480, H⟩ := ya_ (x := (x5_1.drop (t467 : Int).toNat)) H | (generalize hy_ : (x5_1.drop (t467 : Int).toNat) = y480 at H;have Ny480 := a_ hy_.symm;clear hy_));obtain ⟨LMc11, H⟩ := ia_ H;generalize hy_ : (y477 ++ y480) = y484 at H;have Ny484 := a_ hy_.symm;clear hy_;have H' := a_ H;clear H;obtain ⟨Ao12, co12, eo12⟩ := Kd.R_slice HO_5.out;subst eo12
   go_wp2_with (first | ((with_reducible refine gc_ 65 ?_);refine gn_ (some 18) Tryz.func65 (spec_l1Cur_pick.calls g s0_0 x1001_1 x1002_1 (wrap64 ((x5_1.length : Int) + 1)) t467 t468 t469 w0 _ (IsS51.go_ HI0) (IsS51.lo_ HB) A4.out) rfl ?_;rintro w13 ⟨hi, hb, hk⟩; replace HO_5 := a_ (Kd.R_mono (Kd.R_keep (IsS51.apart (show IsS51 w0 _ g s0_0 x1001_1 x1002_1 from IsS51.go_ HI0) (Rl_ HO_5.out) (by decide)) hk (fun _ h => h.2)) (fun _ h => h.1)); replace HK := a_ (KeepBut.trans (Kq_ HK) hk (.inl rfl)); replace HB := a_ (hb); replace HI0 := a_ (hi); (try clear hb); (try clear hk); (try clear hi); have q14 : (t467 : Int) ≤ ((x5_1.length : Int) : Int) := od_; obtain ⟨i014, hi014, _, hsz14, _⟩ := info_parts info3; have hroom14 : x5_1.length ≤ co12 := (Kd.R_reads' HO_5.out).2.1; have hC14 : Kd.C (Kd.int .i64) _ Ao12 x5_1.length x5_1 := (Kd.R_reads' HO_5.out).2.2; have hcut14 := cut_to (P := Tryz.prog) 24 3 .i64 Tryz.underlying24 hi014 Ao12 x5_1.length co12 t467 (od_) q14 hroom14; have hr14 := Kd.C_take (m := (t467 : Int).toNat) hC14 (by omega); have hy14 : y470.length = (t467 : Int).toNat := (by rw [Ny470.out, List.length_take]; omega); rw [← Ny470.out] at hr14; rw [← hy14] at hcut14; have HR473 := a_ hr14; have HC473 := a_ (show y470.length ≤ co12 from by omega); clear hr14 hC14 hroom14 hi014 hsz14; have KY14 := a_ hy14; clear hy14; have KL14 := a_ (show (t467 : Int).toNat ≤ x5_1.length from by omega); replace q14 := eq_true q14) | ((with_reducible refine gate_callee (f := 90) rfl ?_); refine gm_ (some 22) Tryz.func90 #[.slice Ao12 y470.length co12] rfl ?_; (with_reducible refine (spec_l1Own.calls _ _ y470 t474 _ ?side1 ?side2 A7.out).mono ?_); (case side1 => repeat (first | exact (by repeat (first | (with_reducible exact HR473.out) | (with_reducible refine Kd.C_alloc ?_ _) | (with_reducible refine Kd.C_drewN ?_ _) | (with_reducible refine Kd.C_drew ?_) | exact HR473.out)) | (with_reducible refine Kd.C_alloc ?_ _) | (with_reducible refine Kd.C_drewN ?_ _) | (with_reducible refine Kd.C_drew ?_))); (case side2 => exact HC473.out); rintro e w15 ⟨v475, rfl, ho0, hb⟩; refine ⟨_, rfl, ?_⟩; have HO476 := a_ (Kd.R_lower (Kd.R_new' ho0 (Kd.R_lt (Rl_ HO_5.out))) (keep_size (w := w) (g := g) (row := none) (Kq_ HK))); replace HO_5 := a_ (Kd.R_elder' (Rl_ HO_5.out) (Kd.R_base ho0) hb); replace HR473 := a_ (Kd.C_below (by repeat (first | (with_reducible exact HR473.out) | (with_reducible refine Kd.C_alloc ?_ _) | (with_reducible refine Kd.C_drewN ?_ _) | (with_reducible refine Kd.C_drew ?_) | exact HR473.out)) hb); replace HK := a_ (KeepBut.trans (Kq_ HK) (KeepBut.of_below hb g none) (.inl rfl)); replace HB := a_ (below_step (IsS51.lo_ HB) hb); replace HI0 := a_ (IsS51.below (IsS51.go_ HI0) hb); (try clear hb); (try clear ho0)) | ((with_reducible refine gate_builtin (b := .append) (xs := #[.tmp 22, .tmp 24]) rfl ?_); at_builtin; refine Kd.R_append (Kd.int .i64) w.heap.size rfl (.tmp 22) (.tmp 24) 24 3 (.int .i64 0) 8 rfl Tryz.underlying24 info3 rfl (by decide) (by omega) v475 t474 x6_1 [.int .i64 x6_1] (fun k_ => some k_ ≠ (.slice Ao12 x5_1.length co12 : Value).ownBlock) (fun _ => False) rfl rfl ?aP (fun _ hk => hk.elim) ?aF ?aO (Below.refl _ _) ?aS ?aL ?_; (case aP => exact rfl); (case aF => exact (fun k_ hk => Kd.fresh' (Kd.R_lt (Rl_ HO_5.out)) k_ hk)); (case aO => exact (Rl_ (Kd.R_mono HO476.out (fun _ hk => hk.2)))); (case aS => exact (keep_size (w := w) (g := g) (row := none) (Kq_ HK))); (case aL => have := LMc8.out; omega); intro v478 w16 ho hb hg hat; rw [← Ny477.out] at ho; replace HB := a_ (below_weaken (IsS51.lo_ HB) HL.out hb); replace HI0 := a_ (IsS51.grown (IsS51.go_ HI0) hg (IsS51.own_ne HI0.out HO476.out (by decide))); replace HK := a_ (KeepBut.trans (Kq_ HK) (KeepBut.of_grown hg g) (Kd.R_base2 HO476.out)); replace HR473 := a_ ((show Kd.C (Kd.int .i64) w16 Ao12 y470.length y470 from by rw [Ny470.out]; exact Kd.C_take (m := (t467 : Int).toNat) ((Kd.R_reads' (Kd.R_after (ok := (fun _ => True)) (Rl_ HO_5.out) hg hat)).2.2) KL14.out)); replace HO_5 := a_ (Kd.R_after (ok := (fun _ => True)) (Rl_ HO_5.out) hg hat); have HO479 := a_ (ho); clear HO476; clear ho hb hg hat; have q17 : (t467 : Int) ≤ ((x5_1.length : Int) : Int) := od_; obtain ⟨i017, hi017, _, hsz17, _⟩ := info_parts info3; have hroom17 : x5_1.length ≤ co12 := (Kd.R_reads' HO_5.out).2.1; have hC17 : Kd.C (Kd.int .i64) _ Ao12 x5_1.length x5_1 := (Kd.R_reads' HO_5.out).2.2; have q017 : (0 : Int) ≤ (t467 : Int) := od_; have hcut17 := cut_from (P := Tryz.prog) 24 3 .i64 Tryz.underlying24 hi017 1 hsz17 Ao12 x5_1.length co12 t467 q017 q17; have hr17 := Kd.C_drop (m := (t467 : Int).toNat) (c := co12) hC17 (by omega) hroom17; obtain ⟨A17, hA17⟩ : ∃ A1, A1 = (if co12 = (t467 : Int).toNat then Ao12 else (Ao12 : Option Addr).map (·.add ((t467 : Int).toNat * 1))) := ⟨_, rfl⟩; obtain ⟨c17, hc17⟩ : ∃ c1, c1 = co12 - (t467 : Int).toNat := ⟨_, rfl⟩; have hy17 : y480.length = x5_1.length - (t467 : Int).toNat := (by rw [Ny480.out, List.length_drop] <;> omega); rw [show (x5_1).drop (t467 : Int).toNat = y480 from Ny480.out.symm] at hr17; replace hr17 : Kd.C (Kd.int .i64) _ A17 y480.length y480 := (by rw [hA17]; exact hr17); rw [← hy17, ← hA17, ← hc17] at hcut17; have HR483 := a_ hr17; have HC483 := a_ (show y480.length ≤ c17 from by rw [hy17, hc17]; exact Nat.sub_le_sub_right hroom17 _); clear hr17 hC17 hroom17 hi017 hsz17 hc17; have KY17 := a_ hy17; have KA17 := a_ hA17; clear hy17 hA17; have KL17 := a_ (show (t467 : Int).toNat ≤ x5_1.length from by omega); replace q17 := eq_true q17) | ((with_reducible refine gate_builtin (b := .append) (xs := #[.tmp 26, .tmp 29]) rfl ?_); at_builtin; refine Kd.R_append_rows (Kd.int .i64) w.heap.size rfl (.tmp 26) (.tmp 29) 24 3 (.int .i64 0) 8 rfl Tryz.underlying24 info3 rfl (by decide) (by omega) v478 y477 y480 _ _ _ (fun k_ => some k_ ≠ (.slice Ao12 x5_1.length co12 : Value).ownBlock) (fun _ => False) rfl rfl ?aO ?aR (fun _ _ h => h) (fun _ h => h.elim) ?aF (Below.refl _ _) ?aS ?aL ?_; (case aR => repeat (first | exact (by repeat (first | (with_reducible exact HR483.out) | (with_reducible refine Kd.C_alloc ?_ _) | (with_reducible refine Kd.C_drewN ?_ _) | (with_reducible refine Kd.C_drew ?_) | exact HR483.out)) | (with_reducible refine Kd.C_alloc ?_ _) | (with_reducible refine Kd.C_drewN ?_ _) | (with_reducible refine Kd.C_drew ?_))); (case aF => exact (fun k_ hk => Kd.fresh' (Kd.R_lt (Rl_ HO_5.out)) k_ hk)); (case aO => exact (Rl_ HO479.out)); (case aS => exact (keep_size (w := w) (g := g) (row := none) (Kq_ HK))); (case aL => have := LMc11.out; omega); intro v485 w18 ho hb hg hat; rw [← Ny484.out] at ho; replace HB := a_ (below_weaken (IsS51.lo_ HB) HL.out hb); replace HI0 := a_ (IsS51.grown (IsS51.go_ HI0) hg (IsS51.own_ne HI0.out HO479.out (by decide))); replace HK := a_ (KeepBut.trans (Kq_ HK) (KeepBut.of_grown hg g) (Kd.R_base2 HO479.out)); replace HR473 := a_ ((show Kd.C (Kd.int .i64) w18 Ao12 y470.length y470 from by rw [Ny470.out]; exact Kd.C_take (m := (t467 : Int).toNat) ((Kd.R_reads' (Kd.R_after (ok := (fun _ => True)) (Rl_ HO_5.out) hg hat)).2.2) KL14.out)); replace HR483 := a_ ((show Kd.C (Kd.int .i64) w18 A17 y480.length y480 from by rw [Ny480.out, KA17.out]; exact Kd.C_drop (m := (t467 : Int).toNat) (c := co12) ((Kd.R_reads' (Kd.R_after (ok := (fun _ => True)) (Rl_ HO_5.out) hg hat)).2.2) KL17.out ((Kd.R_reads' (Kd.R_after (ok := (fun _ => True)) (Rl_ HO_5.out) hg hat)).2.1))); replace HO_5 := a_ (Kd.R_after (ok := (fun _ => True)) (Rl_ HO_5.out) hg hat); have HO486 := a_ (ho); clear HO479; clear ho hb hg hat))
   go_roundg k1
   case measure => have := HK1.out; omega
   case rel => exact ⟨(y484), (wrap64 (x6_1 + 1)), (t468), (t469), rs_, H', ⟨by have := HK1.out; omega⟩, ⟨Rl_ (Kd.R_mono HO486.out (fun _ hk => trivial))⟩, ⟨IsS51.go_ HI0⟩, ⟨by repeat (first | (with_reducible first | exact HK.out | apply KeepBut.set_ | apply keep_drewN | apply keep_drew | apply keep_alloc) | exact HK.out)⟩, ⟨IsS51.lo_ HB⟩⟩

/-! ### spec_l1Cur_order: function 57 -/
def spec_l1Cur_order.f (k : Nat) (s0_0 : List Int) (s0_1 : Int) (s0_2 : Int) : Option (List Int × Int × Int) := (spec_l1Cur_pick.f s0_0 s0_1 s0_2 6).bind fun bt487 => ((spec_l1Cur_sureOrder.f k s0_0 bt487.2.1 bt487.2.2 (wrap64 (1 + bt487.1))).bind fun bt490 => ((spec_l1Cur_pick.f s0_0 bt490.2.1 bt490.2.2 14).bind fun bt495 => (if bt495.1 = 0 then ((spec_l1Cur_pick.f s0_0 bt495.2.1 bt495.2.2 (bt490.1.length : Int)).bind fun bt498 => ((spec_l1Cur_among.f s0_0 bt498.2.1 bt498.2.2 (([(-1), 0, (bt490.1.length : Int), 4611686018427387904] : List Int))).bind fun bt504 => (if 0 ≤ bt498.1 then (if bt498.1 < (bt490.1.length : Int) then (some ((bt490.1.set (bt498.1 : Int).toNat bt504.1), bt504.2.1, bt504.2.2)) else (none)) else (none)))) else (if bt495.1 = 1 then (some (([] : List Int), bt495.2.1, bt495.2.2)) else (if bt495.1 = 2 then ((spec_l1Cur_pick.f s0_0 bt495.2.1 bt495.2.2 2).bind fun bt508 => ((spec_l1Cur_sureOrder.f k s0_0 bt508.2.1 bt508.2.2 (wrap64 (8 + bt508.1))).bind fun bt511 => (some (bt511.1, bt511.2.1, bt511.2.2)))) else (some (bt490.1, bt495.2.1, bt495.2.2)))))))
theorem spec_l1Cur_order.mono : ∀ a0 a1 a2 k, LeO (spec_l1Cur_order.f k a0 a1 a2) (spec_l1Cur_order.f (k + 1) a0 a1 a2) := by
 intro a0 a1 a2 k;unfold spec_l1Cur_order.f;have m1 := @spec_l1Cur_sureOrder.mono;exact mo_
theorem spec_l1Cur_order.calls (k : Nat) (g : Nat) (s0_0 : List Int) (s0_1 : Int) (s0_2 : Int) (r1 : List Int) (r2 : Int) (r3 : Int) (w0 w : World) (hI : IsS51 w0 w g s0_0 s0_1 s0_2) (hB : Below w0.heap.size w0 w) (h : spec_l1Cur_order.f k s0_0 s0_1 s0_2 = some (r1, r2, r3)) :
 Calls Tryz.prog 57 #[.pointer (some ⟨g, 0, none⟩)] w fun e w' => ∃ v0_ : Value, e = .returned (v0_) ∧ Kd.R (Kd.int .i64) 3 w' w.heap.size (fun _ => True) v0_ r1 ∧ IsS51 w0 w' g s0_0 r2 r3 ∧ Below w0.heap.size w0 w' ∧ KeepBut w w' g none := by
 have HI0 := a_ hI;have HK := a_ (KeepBut.refl w g none);have HL := a_ hB.size;clear hI;have HW0 := a_ hB.size;have HB := a_ hB;clear hB;have H := h;unfold spec_l1Cur_order.f at H;clear h;obtain ⟨⟨t487, t488, t489⟩, A2, H⟩ := ob_ H;(try dsimp only at H);obtain ⟨⟨t490, t493, t494⟩, A3, H⟩ := ob_ H;(try dsimp only at H);obtain ⟨⟨t495, t496, t497⟩, A4, H⟩ := ob_ H;(try dsimp only at H);rcases ij_ H with ⟨c5, H⟩ | ⟨c5, H⟩
 ·obtain ⟨c5b0, c5b1⟩ := qt_ c5;clear c5;obtain ⟨⟨t498, t499, t500⟩, A6, H⟩ := ob_ H;(try dsimp only at H);generalize hy_ : (([(-1), 0, (t490.length : Int), 4611686018427387904] : List Int)) = y501 at H;have Ny501 := a_ hy_.symm;clear hy_;obtain ⟨⟨t504, t505, t506⟩, A7, H⟩ := ob_ H;(try dsimp only at H);obtain ⟨c8b0, H⟩ := ic_ H;obtain ⟨c9b0, H⟩ := ic_ H;generalize hy_ : (t490.set (t498 : Int).toNat t504) = y507 at H;have Ny507 := a_ hy_.symm;clear hy_;obtain ⟨rfl, rfl, rfl⟩ := s3_ H;go_enter Tryz.func57, Tryz.ntmps57
  go_wp2_with (first | ((with_reducible refine gc_ 65 ?_);refine gn_ (some 6) Tryz.func65 (spec_l1Cur_pick.calls g s0_0 s0_1 s0_2 6 t487 t488 t489 w0 _ (IsS51.go_ HI0) (IsS51.lo_ HB) A2.out) rfl ?_;rintro w11 ⟨hi, hb, hk⟩; replace HK := a_ (KeepBut.trans (Kq_ HK) hk (.inl rfl)); replace HB := a_ (hb); replace HI0 := a_ (hi); (try clear hb); (try clear hk); (try clear hi)) | ((with_reducible refine gc_ 87 ?_);refine gx_ (some 8) Tryz.func87 (spec_l1Cur_sureOrder.calls k g s0_0 t488 t489 (wrap64 (1 + t487)) t490 t493 t494 w0 _ (IsS51.go_ HI0) (IsS51.lo_ HB) A3.out) rfl ?_;rintro v491 w12 ⟨ho0, hi, hb, hk⟩; have HO492 := a_ (Kd.R_lower ho0 (keep_size (w := w) (g := g) (row := none) (Kq_ HK))); replace HK := a_ (KeepBut.trans (Kq_ HK) hk (.inl rfl)); replace HB := a_ (hb); replace HI0 := a_ (hi); (try clear hb); (try clear hk); (try clear hi); (try clear ho0)) | ((with_reducible refine gc_ 65 ?_);refine gn_ (some 10) Tryz.func65 (spec_l1Cur_pick.calls g s0_0 t493 t494 14 t495 t496 t497 w0 _ (IsS51.go_ HI0) (IsS51.lo_ HB) A4.out) rfl ?_;rintro w13 ⟨hi, hb, hk⟩; replace HO492 := a_ (Kd.R_mono (Kd.R_keep (IsS51.apart (show IsS51 w0 _ g s0_0 t493 t494 from IsS51.go_ HI0) (Rl_ HO492.out) (by decide)) hk (fun _ h => h.2)) (fun _ h => h.1)); replace HK := a_ (KeepBut.trans (Kq_ HK) hk (.inl rfl)); replace HB := a_ (hb); replace HI0 := a_ (hi); (try clear hb); (try clear hk); (try clear hi); obtain ⟨Ao14, co14, eo14⟩ := Kd.R_slice HO492.out; subst eo14) | ((with_reducible refine gc_ 65 ?_);refine gn_ (some 17) Tryz.func65 (spec_l1Cur_pick.calls g s0_0 t496 t497 (t490.length : Int) t498 t499 t500 w0 _ (IsS51.go_ HI0) (IsS51.lo_ HB) A6.out) rfl ?_;rintro w15 ⟨hi, hb, hk⟩; replace HO492 := a_ (Kd.R_mono (Kd.R_keep (IsS51.apart (show IsS51 w0 _ g s0_0 t496 t497 from IsS51.go_ HI0) (Rl_ HO492.out) (by decide)) hk (fun _ h => h.2)) (fun _ h => h.1)); replace HK := a_ (KeepBut.trans (Kq_ HK) hk (.inl rfl)); replace HB := a_ (hb); replace HI0 := a_ (hi); (try clear hb); (try clear hk); (try clear hi)) | ((with_reducible refine gate_dst (N := 21) rfl ?_); refine Kd.R_lit (Kd.int .i64) _ 3 ?hg (N := 21) ?hd (xs := ([(-1), 0, (t490.length : Int), 4611686018427387904] : List Int)) (inner := [.int .i64 (-1), .int .i64 0, .int .i64 (t490.length : Int), .int .i64 4611686018427387904]) (ok := fun _ => True) (okp := fun _ => True) ?hr ?hp (fun _ hk => hk) trivial (Below.refl _ _) (Nat.le_refl _) (by simp) ?_; (case hd => rfl); (case hg => rfl); (case hr => first | (go_simp; done) | (go_simp; rfl)); (case hp => exact (Reps.one (show Kd.M (Kd.int .i64) _ _ _ (-1) [.int .i64 (-1)] from rfl) (Reps.one (show Kd.M (Kd.int .i64) _ _ _ 0 [.int .i64 0] from rfl) (Reps.one (show Kd.M (Kd.int .i64) _ _ _ (t490.length : Int) [.int .i64 (t490.length : Int)] from rfl) (Reps.one (show Kd.M (Kd.int .i64) _ _ _ 4611686018427387904 [.int .i64 4611686018427387904] from rfl) (Reps.none _ _)))))); intro v502 w16 ho17 hb hg_ hnew_; clear hg_ hnew_; (first | rw [← Ny501.out] at ho17 | (simp only [Int.reduceToNat] at ho17; rw [← Ny501.out] at ho17)); have HO503 := a_ (Kd.R_lower (Kd.R_new' ho17 (Kd.R_lt (Rl_ HO492.out))) (keep_size (w := w) (g := g) (row := none) (Kq_ HK))); replace HO492 := a_ (Kd.R_elder' (Rl_ HO492.out) (Kd.R_base ho17) hb); replace HK := a_ (KeepBut.trans (Kq_ HK) (KeepBut.of_below hb g none) (.inl rfl)); replace HB := a_ (below_step (IsS51.lo_ HB) hb); replace HI0 := a_ (IsS51.below (IsS51.go_ HI0) hb); clear hb ho17; obtain ⟨Ao18, co18, eo18⟩ := Kd.R_slice HO503.out; subst eo18) | ((with_reducible refine gc_ 66 ?_);refine gn_ (some 22) Tryz.func66 (spec_l1Cur_among.calls g s0_0 t499 t500 _ _ y501 t504 t505 t506 w0 _ (IsS51.go_ HI0) (IsS51.lo_ HB) (Cl_ (Kd.R_reads' HO503.out).2.2) ((Kd.R_reads' HO503.out).2.1) (far_slice (IsS51.own_ne HI0.out HO503.out (by decide))) A7.out) rfl ?_;rintro w19 ⟨hi, hb, hk⟩; replace HO492 := a_ (Kd.R_mono (Kd.R_keep (IsS51.apart (show IsS51 w0 _ g s0_0 t499 t500 from IsS51.go_ HI0) (Rl_ HO492.out) (by decide)) hk (fun _ h => h.2)) (fun _ h => h.1)); replace HO503 := a_ (Kd.R_mono (Kd.R_keep (IsS51.apart (show IsS51 w0 _ g s0_0 t499 t500 from IsS51.go_ HI0) (Rl_ HO503.out) (by decide)) hk (fun _ h => h.2)) (fun _ h => h.1)); replace HK := a_ (KeepBut.trans (Kq_ HK) hk (.inl rfl)); replace HB := a_ (hb); replace HI0 := a_ (hi); (try clear hb); (try clear hk); (try clear hi); have p10 : 0 ≤ (t498 : Int) := od_; have q10 : (t498 : Int) < ((t490.length : Int) : Int) := od_; obtain ⟨go10, co10, eo10, gb10, gl10, cl10, HG10⟩ := Kd.R_form HO492.out (by omega); (first | cases eo10 | (injection eo10 with ea_ en_ ec_; (first | subst ea_ | (injection ea_ with ea_; subst ea_)); subst ec_; clear en_)); have GB10 := a_ gb10; have GG10 := a_ HG10; clear gb10 gl10 HG10; obtain ⟨hx10_0, hf10_0⟩ := Kd.R_celln 0 HO492.out (t498 : Int) p10 q10; replace p10 := eq_true p10; replace q10 := eq_true q10; have n_ := a_ (Kd.R_mono (ok' := (fun k_ => some k_ ≠ (.slice Ao18 y501.length co18 : Value).ownBlock)) HO492.out (fun k_ hk => hk.2)); clear HO492; have HO492 := n_; clear n_; obtain ⟨hy20_, hz20_⟩ := Kd.R_celln 0 HO492.out (t498 : Int) (od_) (od_); have HP20 := Kd.R_putg HO492.out (t498 : Int) t504) | ((with_reducible refine gate_store (t := 3) (p := 23) rfl ?_); refine store_event (t := 3) (p := 23) (v := ?vo_w21) (w1 := (w19.setCell ⟨go10, (t498 : Int).toNat, none⟩ (.int .i64 t504))) ?hg ?ho ?hn ?hr ?_; (case ho => rfl); (case hg => rfl); (case hn => rfl); (case hr => first | (go_simp; done) | (go_simp; rfl)); intro w21 hw; have hg : w19.grownBy w21 (some go10) := (by rw [hw]; exact HP20.2); have hp_ : Kd.R (Kd.int .i64) 3 w21 w.heap.size (fun k_ => some k_ ≠ (.slice Ao18 y501.length co18 : Value).ownBlock) (.slice (some ⟨go10, 0, none⟩) t490.length co14) y507 := (by rw [hw, Ny507.out]; exact HP20.1); clear HP20; replace HI0 := a_ (IsS51.grown (IsS51.go_ HI0) hg (IsS51.own_ne HI0.out HO492.out (by decide))); replace HO503 := a_ (Kd.R_after (v := (.slice (some ⟨go10, 0, none⟩) t490.length co14)) (v1 := (.slice (some ⟨go10, 0, none⟩) t490.length co14)) (ok := (fun _ => True)) (Rl_ HO503.out) hg (.inl rfl)); replace HB := a_ ((by rw [hw]; exact below_set (HB.out) (Nat.le_trans HL.out GB10.out) : Below w0.heap.size w0 w21)); replace HK := a_ (KeepBut.trans (Kq_ HK) (KeepBut.of_grown hg g) (Kd.R_base2 HO492.out)); replace HO492 := a_ (hp_); clear hg hw hp_))
  go_ret;exact ⟨_, re_, by (with_reducible repeat (first | apply Kd.R_alloc | apply Kd.R_drewN | apply Kd.R_drew)); exact Kd.R_mono HO492.out (fun _ hk => trivial), IsS51.go_ HI0, IsS51.lo_ HB, by repeat (first | (with_reducible first | exact HK.out | apply KeepBut.set_ | apply keep_drewN | apply keep_drew | apply keep_alloc) | exact HK.out)⟩
 obtain ⟨c5b0, c5b1⟩ := qf_ c5;rcases ij_ H with ⟨c22, H⟩ | ⟨c22, H⟩
 ·obtain ⟨c22b0, c22b1⟩ := qt_ c22;clear c22;obtain ⟨rfl, rfl, rfl⟩ := s3_ H;go_enter Tryz.func57, Tryz.ntmps57
  go_wp2_with (first | ((with_reducible refine gc_ 65 ?_);refine gn_ (some 6) Tryz.func65 (spec_l1Cur_pick.calls g s0_0 s0_1 s0_2 6 t487 t488 t489 w0 _ (IsS51.go_ HI0) (IsS51.lo_ HB) A2.out) rfl ?_;rintro w23 ⟨hi, hb, hk⟩; replace HK := a_ (KeepBut.trans (Kq_ HK) hk (.inl rfl)); replace HB := a_ (hb); replace HI0 := a_ (hi); (try clear hb); (try clear hk); (try clear hi)) | ((with_reducible refine gc_ 87 ?_);refine gx_ (some 8) Tryz.func87 (spec_l1Cur_sureOrder.calls k g s0_0 t488 t489 (wrap64 (1 + t487)) t490 t493 t494 w0 _ (IsS51.go_ HI0) (IsS51.lo_ HB) A3.out) rfl ?_;rintro v491 w24 ⟨ho0, hi, hb, hk⟩; have HO492 := a_ (Kd.R_lower ho0 (keep_size (w := w) (g := g) (row := none) (Kq_ HK))); replace HK := a_ (KeepBut.trans (Kq_ HK) hk (.inl rfl)); replace HB := a_ (hb); replace HI0 := a_ (hi); (try clear hb); (try clear hk); (try clear hi); (try clear ho0)) | ((with_reducible refine gc_ 65 ?_);refine gn_ (some 10) Tryz.func65 (spec_l1Cur_pick.calls g s0_0 t493 t494 14 t495 t496 t497 w0 _ (IsS51.go_ HI0) (IsS51.lo_ HB) A4.out) rfl ?_;rintro w25 ⟨hi, hb, hk⟩; replace HO492 := a_ (Kd.R_mono (Kd.R_keep (IsS51.apart (show IsS51 w0 _ g s0_0 t493 t494 from IsS51.go_ HI0) (Rl_ HO492.out) (by decide)) hk (fun _ h => h.2)) (fun _ h => h.1)); replace HK := a_ (KeepBut.trans (Kq_ HK) hk (.inl rfl)); replace HB := a_ (hb); replace HI0 := a_ (hi); (try clear hb); (try clear hk); (try clear hi)))
  go_ret;exact ⟨_, re_, nl_, IsS51.go_ HI0, IsS51.lo_ HB, by repeat (first | (with_reducible first | exact HK.out | apply KeepBut.set_ | apply keep_drewN | apply keep_drew | apply keep_alloc) | exact HK.out)⟩
 obtain ⟨c22b0, c22b1⟩ := qf_ c22;rcases ib_ H with ⟨c26, H⟩ | ⟨c26, H⟩
 ·obtain ⟨c26b0, c26b1⟩ := qf_ c26;obtain ⟨rfl, rfl, rfl⟩ := s3_ H;go_enter Tryz.func57, Tryz.ntmps57
  go_wp2_with (first | ((with_reducible refine gc_ 65 ?_);refine gn_ (some 6) Tryz.func65 (spec_l1Cur_pick.calls g s0_0 s0_1 s0_2 6 t487 t488 t489 w0 _ (IsS51.go_ HI0) (IsS51.lo_ HB) A2.out) rfl ?_;rintro w34 ⟨hi, hb, hk⟩; replace HK := a_ (KeepBut.trans (Kq_ HK) hk (.inl rfl)); replace HB := a_ (hb); replace HI0 := a_ (hi); (try clear hb); (try clear hk); (try clear hi)) | ((with_reducible refine gc_ 87 ?_);refine gx_ (some 8) Tryz.func87 (spec_l1Cur_sureOrder.calls k g s0_0 t488 t489 (wrap64 (1 + t487)) t490 t493 t494 w0 _ (IsS51.go_ HI0) (IsS51.lo_ HB) A3.out) rfl ?_;rintro v491 w35 ⟨ho0, hi, hb, hk⟩; have HO492 := a_ (Kd.R_lower ho0 (keep_size (w := w) (g := g) (row := none) (Kq_ HK))); replace HK := a_ (KeepBut.trans (Kq_ HK) hk (.inl rfl)); replace HB := a_ (hb); replace HI0 := a_ (hi); (try clear hb); (try clear hk); (try clear hi); (try clear ho0)) | ((with_reducible refine gc_ 65 ?_);refine gn_ (some 10) Tryz.func65 (spec_l1Cur_pick.calls g s0_0 t493 t494 14 t495 t496 t497 w0 _ (IsS51.go_ HI0) (IsS51.lo_ HB) A4.out) rfl ?_;rintro w36 ⟨hi, hb, hk⟩; replace HO492 := a_ (Kd.R_mono (Kd.R_keep (IsS51.apart (show IsS51 w0 _ g s0_0 t493 t494 from IsS51.go_ HI0) (Rl_ HO492.out) (by decide)) hk (fun _ h => h.2)) (fun _ h => h.1)); replace HK := a_ (KeepBut.trans (Kq_ HK) hk (.inl rfl)); replace HB := a_ (hb); replace HI0 := a_ (hi); (try clear hb); (try clear hk); (try clear hi)))
  go_ret;exact ⟨_, re_, by (with_reducible repeat (first | apply Kd.R_alloc | apply Kd.R_drewN | apply Kd.R_drew)); exact HO492.out, IsS51.go_ HI0, IsS51.lo_ HB, by repeat (first | (with_reducible first | exact HK.out | apply KeepBut.set_ | apply keep_drewN | apply keep_drew | apply keep_alloc) | exact HK.out)⟩
 obtain ⟨c26b0, c26b1⟩ := qt_ c26;clear c26;obtain ⟨⟨t508, t509, t510⟩, A27, H⟩ := ob_ H;(try dsimp only at H);obtain ⟨⟨t511, t514, t515⟩, A28, H⟩ := ob_ H;(try dsimp only at H);obtain ⟨rfl, rfl, rfl⟩ := s3_ H;go_enter Tryz.func57, Tryz.ntmps57
 go_wp2_with (first | ((with_reducible refine gc_ 65 ?_);refine gn_ (some 6) Tryz.func65 (spec_l1Cur_pick.calls g s0_0 s0_1 s0_2 6 t487 t488 t489 w0 _ (IsS51.go_ HI0) (IsS51.lo_ HB) A2.out) rfl ?_;rintro w29 ⟨hi, hb, hk⟩; replace HK := a_ (KeepBut.trans (Kq_ HK) hk (.inl rfl)); replace HB := a_ (hb); replace HI0 := a_ (hi); (try clear hb); (try clear hk); (try clear hi)) | ((with_reducible refine gc_ 87 ?_);refine gx_ (some 8) Tryz.func87 (spec_l1Cur_sureOrder.calls k g s0_0 t488 t489 (wrap64 (1 + t487)) t490 t493 t494 w0 _ (IsS51.go_ HI0) (IsS51.lo_ HB) A3.out) rfl ?_;rintro v491 w30 ⟨ho0, hi, hb, hk⟩; have HO492 := a_ (Kd.R_lower ho0 (keep_size (w := w) (g := g) (row := none) (Kq_ HK))); replace HK := a_ (KeepBut.trans (Kq_ HK) hk (.inl rfl)); replace HB := a_ (hb); replace HI0 := a_ (hi); (try clear hb); (try clear hk); (try clear hi); (try clear ho0)) | ((with_reducible refine gc_ 65 ?_);refine gn_ (some 10) Tryz.func65 (spec_l1Cur_pick.calls g s0_0 t493 t494 14 t495 t496 t497 w0 _ (IsS51.go_ HI0) (IsS51.lo_ HB) A4.out) rfl ?_;rintro w31 ⟨hi, hb, hk⟩; replace HO492 := a_ (Kd.R_mono (Kd.R_keep (IsS51.apart (show IsS51 w0 _ g s0_0 t493 t494 from IsS51.go_ HI0) (Rl_ HO492.out) (by decide)) hk (fun _ h => h.2)) (fun _ h => h.1)); replace HK := a_ (KeepBut.trans (Kq_ HK) hk (.inl rfl)); replace HB := a_ (hb); replace HI0 := a_ (hi); (try clear hb); (try clear hk); (try clear hi)) | ((with_reducible refine gc_ 65 ?_);refine gn_ (some 30) Tryz.func65 (spec_l1Cur_pick.calls g s0_0 t496 t497 2 t508 t509 t510 w0 _ (IsS51.go_ HI0) (IsS51.lo_ HB) A27.out) rfl ?_;rintro w32 ⟨hi, hb, hk⟩; replace HO492 := a_ (Kd.R_mono (Kd.R_keep (IsS51.apart (show IsS51 w0 _ g s0_0 t496 t497 from IsS51.go_ HI0) (Rl_ HO492.out) (by decide)) hk (fun _ h => h.2)) (fun _ h => h.1)); replace HK := a_ (KeepBut.trans (Kq_ HK) hk (.inl rfl)); replace HB := a_ (hb); replace HI0 := a_ (hi); (try clear hb); (try clear hk); (try clear hi)) | ((with_reducible refine gc_ 87 ?_);refine gx_ (some 32) Tryz.func87 (spec_l1Cur_sureOrder.calls k g s0_0 t509 t510 (wrap64 (8 + t508)) t511 t514 t515 w0 _ (IsS51.go_ HI0) (IsS51.lo_ HB) A28.out) rfl ?_;rintro v512 w33 ⟨ho0, hi, hb, hk⟩; have HO513 := a_ (Kd.R_lower (Kd.R_new' ho0 (Kd.R_lt (Rl_ HO492.out))) (keep_size (w := w) (g := g) (row := none) (Kq_ HK))); replace HO492 := a_ (Kd.R_mono (Kd.R_told (Kd.R_oldK (IsS51.apart (show IsS51 w0 _ g s0_0 t509 t510 from IsS51.go_ HI0) (Rl_ HO492.out) (by decide)) hk) (Kd.R_base ho0)) (fun _ h_ => h_.1)); replace HK := a_ (KeepBut.trans (Kq_ HK) hk (.inl rfl)); replace HB := a_ (hb); replace HI0 := a_ (hi); (try clear hb); (try clear hk); (try clear hi); (try clear ho0)))
 go_ret;exact ⟨_, re_, by (with_reducible repeat (first | apply Kd.R_alloc | apply Kd.R_drewN | apply Kd.R_drew)); exact Kd.R_mono HO513.out (fun _ hk => trivial), IsS51.go_ HI0, IsS51.lo_ HB, by repeat (first | (with_reducible first | exact HK.out | apply KeepBut.set_ | apply keep_drewN | apply keep_drew | apply keep_alloc) | exact HK.out)⟩

/-! ### spec_l1Cur_one: function 102 -/
def spec_l1Cur_one.f (s0_0 : List Int) (s0_1 : Int) (s0_2 : Int) (a1 : Int) : Option (Bool × Int × Int) := (spec_l1Cur_pick.f s0_0 s0_1 s0_2 a1).bind fun bt516 => (some ((bt516.1 == 0), bt516.2.1, bt516.2.2))
theorem spec_l1Cur_one.calls (g : Nat) (s0_0 : List Int) (s0_1 : Int) (s0_2 : Int) (a1 : Int) (r1 : Bool) (r2 : Int) (r3 : Int) (w0 w : World) (hI : IsS51 w0 w g s0_0 s0_1 s0_2) (hB : Below w0.heap.size w0 w) (h : spec_l1Cur_one.f s0_0 s0_1 s0_2 a1 = some (r1, r2, r3)) :
 Calls Tryz.prog 102 #[.pointer (some ⟨g, 0, none⟩), .int .i64 a1] w fun e w' => e = .returned (.bool r1) ∧ IsS51 w0 w' g s0_0 r2 r3 ∧ Below w0.heap.size w0 w' ∧ KeepBut w w' g none := by
 have HI0 := a_ hI;have HK := a_ (KeepBut.refl w g none);have HL := a_ hB.size;clear hI;have HW0 := a_ hB.size;have HB := a_ hB;clear hB;have H := h;unfold spec_l1Cur_one.f at H;clear h;obtain ⟨⟨t516, t517, t518⟩, A3, H⟩ := ob_ H;(try dsimp only at H);obtain ⟨rfl, rfl, rfl⟩ := s3_ H;go_enter Tryz.func102, Tryz.ntmps102;go_wp2_with (first | ((with_reducible refine gc_ 65 ?_);refine gn_ (some 7) Tryz.func65 (spec_l1Cur_pick.calls g s0_0 s0_1 s0_2 a1 t516 t517 t518 w0 _ (IsS51.go_ HI0) (IsS51.lo_ HB) A3.out) rfl ?_;rintro w4 ⟨hi, hb, hk⟩; replace HK := a_ (KeepBut.trans (Kq_ HK) hk (.inl rfl)); replace HB := a_ (hb); replace HI0 := a_ (hi); (try clear hb); (try clear hk); (try clear hi)));go_ret;exact ⟨re_, IsS51.go_ HI0, IsS51.lo_ HB, by repeat (first | (with_reducible first | exact HK.out | apply KeepBut.set_ | apply keep_drewN | apply keep_drew | apply keep_alloc) | exact HK.out)⟩

/-! ### spec_l1Cur_few: function 82 -/
def spec_l1Cur_few.f (k : Nat) (s0_0 : List Int) (s0_1 : Int) (s0_2 : Int) (a1 : Int) : Option (List Int × Int × Int) := (spec_l1Cur_one.f s0_0 s0_1 s0_2 14).bind fun bt519 => (if bt519.1 = true then ((spec_l1Cur_order.f k s0_0 bt519.2.1 bt519.2.2).bind fun bt522 => (some (bt522.1, bt522.2.1, bt522.2.2))) else ((spec_l1Cur_pick.f s0_0 bt519.2.1 bt519.2.2 (wrap64 (a1 - 1))).bind fun bt527 => ((spec_l1Cur_sureOrder.f k s0_0 bt527.2.1 bt527.2.2 (wrap64 (2 + bt527.1))).bind fun bt530 => (some (bt530.1, bt530.2.1, bt530.2.2)))))
theorem spec_l1Cur_few.mono : ∀ a0 a1 a2 a3 k, LeO (spec_l1Cur_few.f k a0 a1 a2 a3) (spec_l1Cur_few.f (k + 1) a0 a1 a2 a3) := by
 intro a0 a1 a2 a3 k;unfold spec_l1Cur_few.f;have m1 := @spec_l1Cur_order.mono;have m2 := @spec_l1Cur_sureOrder.mono;exact mo_
theorem spec_l1Cur_few.calls (k : Nat) (g : Nat) (s0_0 : List Int) (s0_1 : Int) (s0_2 : Int) (a1 : Int) (r1 : List Int) (r2 : Int) (r3 : Int) (w0 w : World) (hI : IsS51 w0 w g s0_0 s0_1 s0_2) (hB : Below w0.heap.size w0 w) (h : spec_l1Cur_few.f k s0_0 s0_1 s0_2 a1 = some (r1, r2, r3)) :
 Calls Tryz.prog 82 #[.pointer (some ⟨g, 0, none⟩), .int .i64 a1] w fun e w' => ∃ v0_ : Value, e = .returned (v0_) ∧ Kd.R (Kd.int .i64) 3 w' w.heap.size (fun _ => True) v0_ r1 ∧ IsS51 w0 w' g s0_0 r2 r3 ∧ Below w0.heap.size w0 w' ∧ KeepBut w w' g none := by
 have HI0 := a_ hI;have HK := a_ (KeepBut.refl w g none);have HL := a_ hB.size;clear hI;have HW0 := a_ hB.size;have HB := a_ hB;clear hB;have H := h;unfold spec_l1Cur_few.f at H;clear h;obtain ⟨⟨t519, t520, t521⟩, A3, H⟩ := ob_ H;(try dsimp only at H);replace H := bd_ H;rcases H with ⟨rfl, H⟩ | ⟨rfl, H⟩
 ·obtain ⟨⟨t522, t525, t526⟩, A5, H⟩ := ob_ H;(try dsimp only at H);obtain ⟨rfl, rfl, rfl⟩ := s3_ H;go_enter Tryz.func82, Tryz.ntmps82;go_wp2_with (first | ((with_reducible refine gc_ 102 ?_);refine gn_ (some 6) Tryz.func102 (spec_l1Cur_one.calls g s0_0 s0_1 s0_2 14 true t520 t521 w0 _ (IsS51.go_ HI0) (IsS51.lo_ HB) A3.out) rfl ?_;rintro w6 ⟨hi, hb, hk⟩; replace HK := a_ (KeepBut.trans (Kq_ HK) hk (.inl rfl)); replace HB := a_ (hb); replace HI0 := a_ (hi); (try clear hb); (try clear hk); (try clear hi)) | ((with_reducible refine gc_ 57 ?_);refine gx_ (some 8) Tryz.func57 (spec_l1Cur_order.calls k g s0_0 t520 t521 t522 t525 t526 w0 _ (IsS51.go_ HI0) (IsS51.lo_ HB) A5.out) rfl ?_;rintro v523 w7 ⟨ho0, hi, hb, hk⟩; have HO524 := a_ (Kd.R_lower ho0 (keep_size (w := w) (g := g) (row := none) (Kq_ HK))); replace HK := a_ (KeepBut.trans (Kq_ HK) hk (.inl rfl)); replace HB := a_ (hb); replace HI0 := a_ (hi); (try clear hb); (try clear hk); (try clear hi); (try clear ho0)));go_ret
  exact ⟨_, re_, by (with_reducible repeat (first | apply Kd.R_alloc | apply Kd.R_drewN | apply Kd.R_drew)); exact HO524.out, IsS51.go_ HI0, IsS51.lo_ HB, by repeat (first | (with_reducible first | exact HK.out | apply KeepBut.set_ | apply keep_drewN | apply keep_drew | apply keep_alloc) | exact HK.out)⟩
 obtain ⟨⟨t527, t528, t529⟩, A8, H⟩ := ob_ H;(try dsimp only at H);obtain ⟨⟨t530, t533, t534⟩, A9, H⟩ := ob_ H;(try dsimp only at H);obtain ⟨rfl, rfl, rfl⟩ := s3_ H;go_enter Tryz.func82, Tryz.ntmps82
 go_wp2_with (first | ((with_reducible refine gc_ 102 ?_);refine gn_ (some 6) Tryz.func102 (spec_l1Cur_one.calls g s0_0 s0_1 s0_2 14 false t520 t521 w0 _ (IsS51.go_ HI0) (IsS51.lo_ HB) A3.out) rfl ?_;rintro w10 ⟨hi, hb, hk⟩; replace HK := a_ (KeepBut.trans (Kq_ HK) hk (.inl rfl)); replace HB := a_ (hb); replace HI0 := a_ (hi); (try clear hb); (try clear hk); (try clear hi)) | ((with_reducible refine gc_ 65 ?_);refine gn_ (some 13) Tryz.func65 (spec_l1Cur_pick.calls g s0_0 t520 t521 (wrap64 (a1 - 1)) t527 t528 t529 w0 _ (IsS51.go_ HI0) (IsS51.lo_ HB) A8.out) rfl ?_;rintro w11 ⟨hi, hb, hk⟩; replace HK := a_ (KeepBut.trans (Kq_ HK) hk (.inl rfl)); replace HB := a_ (hb); replace HI0 := a_ (hi); (try clear hb); (try clear hk); (try clear hi)) | ((with_reducible refine gc_ 87 ?_);refine gx_ (some 15) Tryz.func87 (spec_l1Cur_sureOrder.calls k g s0_0 t528 t529 (wrap64 (2 + t527)) t530 t533 t534 w0 _ (IsS51.go_ HI0) (IsS51.lo_ HB) A9.out) rfl ?_;rintro v531 w12 ⟨ho0, hi, hb, hk⟩; have HO532 := a_ (Kd.R_lower ho0 (keep_size (w := w) (g := g) (row := none) (Kq_ HK))); replace HK := a_ (KeepBut.trans (Kq_ HK) hk (.inl rfl)); replace HB := a_ (hb); replace HI0 := a_ (hi); (try clear hb); (try clear hk); (try clear hi); (try clear ho0)))
 go_ret;exact ⟨_, re_, by (with_reducible repeat (first | apply Kd.R_alloc | apply Kd.R_drewN | apply Kd.R_drew)); exact HO532.out, IsS51.go_ HI0, IsS51.lo_ HB, by repeat (first | (with_reducible first | exact HK.out | apply KeepBut.set_ | apply keep_drewN | apply keep_drew | apply keep_alloc) | exact HK.out)⟩

/-! ### spec_DrawLeastDepth: function 49 -/
def spec_DrawLeastDepth.f (k : Nat) (l0 : List Int) : Option (List Int) := (spec_l1Cur_few.f k l0 0 0 5).bind fun bt536 => (some bt536.1)
theorem spec_DrawLeastDepth.mono : ∀ a0 k, LeO (spec_DrawLeastDepth.f k a0) (spec_DrawLeastDepth.f (k + 1) a0) := by
 intro a0 k;unfold spec_DrawLeastDepth.f;have m1 := @spec_l1Cur_few.mono;exact mo_
theorem spec_DrawLeastDepth.calls (k : Nat) (A0 : Option Addr) (c0 : Nat) (l0 : List Int) (r : List Int) (w : World) (hr0 : Kd.C (Kd.int .u8) w A0 l0.length l0) (hc0 : l0.length ≤ c0) (h : spec_DrawLeastDepth.f k l0 = some r) :
 Calls Tryz.prog 49 #[.slice A0 l0.length c0] w fun e w' => ∃ v0_ : Value, e = .returned (v0_) ∧ Kd.R (Kd.int .i64) 3 w' w.heap.size (fun _ => True) v0_ r ∧ Below w.heap.size w w' := by
 have hu51 := Tryz.underlying51;have HR0 := a_ hr0;have HC0 := a_ hc0;clear hr0 hc0;have HB := a_ (Below.refl w.heap.size w);have H := h;unfold spec_DrawLeastDepth.f at H;clear h;obtain ⟨⟨t536, t539, t540⟩, A2, H⟩ := ob_ H;(try dsimp only at H);obtain rfl := s1_ H;go_enter Tryz.func49, Tryz.ntmps49;go_wp2_with (first | ((with_reducible refine gate_dst (N := 6) rfl ?_); refine bx_ #[.slice A0 l0.length c0, .int .i64 0, .int .u64 0] 51 ?_ 6; intro gb535 hg w3 hbox hb; have HI535 := a_ ((⟨_, _, hbox, (by rw [hg]; exact (below_size (Bl_ HB)) : w.heap.size ≤ gb535), HR0.out⟩ : IsS51 w w3 gb535 l0 0 0)); have GW535 := gw_ HB hg; have GE535 := gw_ HB hg; replace HB := Bs_ HB hb; clear hb hbox hg) | ((with_reducible refine gc_ 82 ?_);refine gx_ (some 8) Tryz.func82 (spec_l1Cur_few.calls k gb535 l0 0 0 5 t536 t539 t540 w _ (IsS51.go_ HI535) (IsS51.lo_ HB) A2.out) rfl ?_;rintro v537 w4 ⟨ho0, hi, hb, hk⟩; have HO538 := a_ (Kd.R_lower ho0 (below_size (IsS51.lo_ HB))); replace HB := a_ (hb); replace HI535 := a_ (hi); (try clear hb); (try clear hk); (try clear hi); (try clear ho0)));go_ret;exact ⟨_, re_, by (with_reducible repeat (first | apply Kd.R_alloc | apply Kd.R_drewN | apply Kd.R_drew)); exact HO538.out, IsS51.lo_ HB⟩

/-! ### spec_DrawLeastLevels: function 22 -/
def spec_DrawLeastLevels.f (k : Nat) (l0 : List Int) : Option (List Int) := (spec_DrawLeastDepth.f k l0).bind fun t541 => (some t541)
theorem spec_DrawLeastLevels.mono : ∀ a0 k, LeO (spec_DrawLeastLevels.f k a0) (spec_DrawLeastLevels.f (k + 1) a0) := by
 intro a0 k;unfold spec_DrawLeastLevels.f;have m1 := @spec_DrawLeastDepth.mono;exact mo_
theorem spec_DrawLeastLevels.calls (k : Nat) (A0 : Option Addr) (c0 : Nat) (l0 : List Int) (r : List Int) (w : World) (hr0 : Kd.C (Kd.int .u8) w A0 l0.length l0) (hc0 : l0.length ≤ c0) (h : spec_DrawLeastLevels.f k l0 = some r) :
 Calls Tryz.prog 22 #[.slice A0 l0.length c0] w fun e w' => ∃ v0_ : Value, e = .returned (v0_) ∧ Kd.R (Kd.int .i64) 3 w' w.heap.size (fun _ => True) v0_ r ∧ Below w.heap.size w w' := by
 have HR0 := a_ hr0;have HC0 := a_ hc0;clear hr0 hc0;have HB := a_ (Below.refl w.heap.size w);have H := h;unfold spec_DrawLeastLevels.f at H;clear h;obtain ⟨t541, A2, H⟩ := ob_ H;(try dsimp only at H);obtain rfl := s1_ H;go_enter Tryz.func22, Tryz.ntmps22;go_wp2_with (first | ((with_reducible refine gate_callee (f := 49) rfl ?_); refine gm_ (some 4) Tryz.func49 #[.slice A0 l0.length c0] rfl ?_; (with_reducible refine (spec_DrawLeastDepth.calls k _ _ l0 t541 _ ?side1 ?side2 A2.out).mono ?_); (case side1 => repeat (first | exact HR0.out | (with_reducible refine Kd.C_alloc ?_ _) | (with_reducible refine Kd.C_drewN ?_ _) | (with_reducible refine Kd.C_drew ?_))); (case side2 => exact HC0.out); rintro e w3 ⟨v542, rfl, ho0, hb⟩; refine ⟨_, rfl, ?_⟩; have HO543 := a_ (Kd.R_lower ho0 (below_size (Bl_ HB))); replace HB := Bs_ HB hb; (try clear hb); (try clear ho0)));go_ret;exact ⟨_, re_, Rl_ HO543.out, Bl_ HB⟩

/-! ### impl_LeastLevels: function 23 -/
def llIn (k : Nat) (q : List (List Int × Int)) (p : List Int) (left : Int) : List (List Int) → Option (Option (List Int × List Int))
  | [] => some none
  | l :: ls => (impl_laid.f k p l).bind fun x => if keyOk k x = true then (if lookD q x = wrap64 (left - 1) then some (some (l, x)) else llIn k q p left ls) else none
def llL (k0 : Nat) (q : List (List Int × Int)) (ls : List (List Int)) : Nat → List Int → Int → List (List Int) → Option (List (List Int))
  | 0, _, _, _ => none
  | k + 1, p, left, out => if 0 < left then (llIn k0 q p left ls).bind fun r => match r with
      | none => llL k0 q ls k p (wrap64 (left - 1)) out
      | some s => if out.length < 1000 ∧ p.length = s.2.length then llL k0 q ls k s.2 (wrap64 (left - 1)) (out ++ [s.1]) else none
    else some out
def impl_LeastLevels.f (k : Nat) (l0 : List Int) : Option (List (List Int) × Bool) := (impl_isMade.f k l0).bind fun b => if b = true then (impl_depths.f k (l0.length : Int)).bind fun q => (if keyOk k l0 = true ∧ 2 ≤ l0.length ∧ l0.length ≤ 6 then (llL k q (lvl (l0.length - 1) 8 0 []) k l0 (lookD q l0) []).bind fun r => some (r, true) else none) else some ([], false)
theorem llIn_mono (k : Nat) (q : List (List Int × Int)) (p : List Int) (left : Int) : ∀ ls, LeO (llIn k q p left ls) (llIn (k + 1) q p left ls)
  | [] => LeO.refl _
  | _ :: _ => LeO.bind (impl_laid.mono _ _ _) fun _ => LeO.guard keyOk_mono (LeO.ite (LeO.refl _) (llIn_mono k q p left _))
theorem llL_mono (k0 : Nat) (q : List (List Int × Int)) (ls : List (List Int)) : ∀ k p left out, LeO (llL k0 q ls k p left out) (llL (k0 + 1) q ls (k + 1) p left out)
  | 0, _, _, _ => LeO.none _
  | k + 1, p, left, out => LeO.ite (LeO.bind (llIn_mono _ _ _ _ _) fun r => by
      cases r with
      | none => exact llL_mono k0 q ls k _ _ _
      | some s => exact LeO.ite (llL_mono k0 q ls k _ _ _) (LeO.refl _)) (LeO.refl _)
theorem impl_LeastLevels.mono : ∀ a0 k, LeO (impl_LeastLevels.f k a0) (impl_LeastLevels.f (k + 1) a0) := fun _ _ => LeO.bind (impl_isMade.mono _ _) fun _ => LeO.ite (LeO.bind (impl_depths.mono _ _) fun _ => LeO.guard (fun h => ⟨keyOk_mono h.1, h.2⟩) (LeO.bind (llL_mono _ _ _ _ _ _ _) fun _ => LeO.refl _)) (LeO.refl _)
/-- a level of a list of levels: where it stands, and what it owns -/
theorem s_at {W : World} {base : Nat} {ok : Nat → Prop} {A : Option Addr} {n cap : Nat} {xs : List (List Int)} {p : List Int} (h : Kd.S (Kd.slice 3 (Kd.int .i64)) 24 W base ok (.slice A n cap) xs) (i : Nat) (hi : xs[i]? = some p) :
    ∃ ad A' c', A = some ad ∧ W.cell? (ad.add i) = some (.slice A' p.length c') ∧ Kd.R (Kd.int .i64) 3 W base (fun k => ok k ∧ some k ≠ (Value.slice A n cap).ownBlock) (.slice A' p.length c') p := by
  have hC := (Kd.S_reads' h).2.2
  have hn := (Kd.S_reads' h).1
  obtain ⟨ad, A', c', rfl, hx, _, _⟩ := l_at hC i hi
  have hi2 := (List.getElem?_eq_some_iff.1 hi).1
  obtain ⟨c, hcl, hM, hcc⟩ := Kd.S_get h [] (i : Int) (by omega) (by omega)
  have ex : xs.getD (i : Int).toNat [] = p := by simp [hi]
  rw [ex] at hM
  obtain ⟨v, rfl, hR⟩ := hM
  have hv := hcc 0 _ rfl
  rw [show (i : Int).toNat * (Kd.slice 3 (Kd.int .i64)).sz + 0 = i by show (i : Int).toNat * 1 + 0 = i; omega, hx] at hv
  injection hv with hv
  subst hv
  exact ⟨ad, A', c', rfl, hx, hR⟩
theorem Dep.ne_cells {w : World} {bm : Nat} {q : List (List Int × Int)} (h : Dep w bm q) {k : Nat} {c : Array Value} {t : Nat} (hk : w.heap[k]? = some (.cells c t (0, 0))) : k ≠ bm := by
  obtain ⟨D, ⟨es, clock, hb, _⟩, _⟩ := h
  rintro rfl
  rw [hb] at hk
  cases hk
theorem impl_LeastLevels.calls (k : Nat) (A0 : Option Addr) (c0 : Nat) (l0 : List Int) (r1 : List (List Int)) (r2 : Bool) (w : World) (hr0 : Kd.C (Kd.int .i64) w A0 l0.length l0) (hc0 : l0.length ≤ c0) (h : impl_LeastLevels.f k l0 = some (r1, r2)) :
 Calls Tryz.prog 23 #[.slice A0 l0.length c0] w fun e w' => ∃ v0_ : Value, e = .returned (.tuple #[v0_, .bool r2]) ∧ Kd.S (Kd.slice 3 (Kd.int .i64)) 24 w' w.heap.size (fun _ => True) v0_ r1 ∧ Below w.heap.size w w' := by
  unfold impl_LeastLevels.f at h;replace h := Option.bind_eq_some_iff.mp h;obtain ⟨b, hb, h⟩ := h;have HR := a_ hr0;have HC := a_ hc0;have HM := a_ hb;clear hr0 hc0 hb
  cases b with
  | false =>
   rw [if_neg (by simp)] at h;simp only [Option.some.injEq, Prod.mk.injEq] at h;obtain ⟨rfl, rfl⟩ := h;go_enter Tryz.func23, Tryz.ntmps23;go_wp2_with (first | ((with_reducible refine gate_callee (f := 46) rfl ?_); refine goesL_ (some 11) rfl rfl Tryz.func46 (by kernel_rfl) rfl #[.slice A0 l0.length c0] rfl (by (try simp only [List.map_toArray, List.map_cons, List.map_nil]); first | done | rfl) ?_; (with_reducible refine (impl_isMade.calls k A0 c0 l0 false _ HR.out HC.out HM.out).mono ?_); rintro e w1 ⟨rfl, ⟨q, rfl⟩⟩; refine ⟨_, rfl, ?_⟩));go_ret2;exact ⟨_, rfl, Kd.S_nil _ _ _ _ _, pw_below_drewN (Below.refl _ _) _⟩
  | true =>
   rw [if_pos rfl] at h;replace h := Option.bind_eq_some_iff.mp h;obtain ⟨q, hq, h⟩ := h;by_cases hk : keyOk k l0 = true ∧ 2 ≤ l0.length ∧ l0.length ≤ 6
   case neg => rw [if_neg hk] at h; cases h
   rw [if_pos hk] at h;replace h := Option.bind_eq_some_iff.mp h;obtain ⟨r, hr, h⟩ := h;simp only [Option.some.injEq, Prod.mk.injEq] at h;obtain ⟨rfl, rfl⟩ := h;obtain ⟨n, hn⟩ : ∃ n, n = l0.length := ⟨_, rfl⟩;obtain ⟨ls, hls⟩ : ∃ ls, ls = lvl (l0.length - 1) 8 0 [] := ⟨_, rfl⟩;rw [← hls] at hr;have HLS := a_ hls;have HL := Lib.hid (lvl_few (l0.length - 1) (by omega));have HN := a_ (show 2 ≤ n ∧ n ≤ 8 by omega);have HNL := a_ hn;have HK := a_ (keyOk_ok hk.1);have HQ := a_ hq;have HF := a_ hr;have HB := a_ (Below.refl w.heap.size w);have HV := a_ (show Kd.V (Kd.int .i64) 3 w w.heap.size (fun k_ => k_ < w.heap.size) (.slice A0 l0.length c0) l0 from Kd.V_mk HC.out (Kd.C_F (Kd.heap_int _) HR.out));clear hk hq hr hls HR hn;go_enter Tryz.func23, Tryz.ntmps23
   go_wp2_with (first | ((with_reducible refine gate_callee (f := 46) rfl ?_); refine goesL_ (some 11) rfl rfl Tryz.func46 (by kernel_rfl) rfl #[.slice A0 l0.length c0] rfl (by (try simp only [List.map_toArray, List.map_cons, List.map_nil]); first | done | rfl) ?_; (with_reducible refine (impl_isMade.calls k A0 c0 l0 true _ (Kd.V_reads' HV.out).2.2 HC.out HM.out).mono ?_); rintro e w1 ⟨rfl, ⟨qq, rfl⟩⟩; refine ⟨_, rfl, ?_⟩; replace HV := a_ (Kd.V_drewN HV.out qq); replace HB := a_ (pw_below_drewN HB.out qq)) | ((with_reducible refine gate_callee (f := 47) rfl ?_); refine goesL_ (some 15) rfl rfl Tryz.func47 (by kernel_rfl) rfl #[.int .i64 (l0.length : Int)] rfl (by (try simp only [List.map_toArray, List.map_cons, List.map_nil]); first | done | rfl) ?_; (with_reducible refine (impl_depths.calls k (l0.length : Int) q _ HQ.out).mono ?_); rintro e w2 ⟨bm, rfl, hbm, hD, hb⟩; refine ⟨_, rfl, ?_⟩; have HD := a_ hD; replace HV := a_ (Kd.V_below HV.out hb); replace HB := a_ (below_step HB.out hb); clear hbm hD hb) | ((with_reducible refine gate_dst (N := 16) rfl ?_); refine Kd.S_lit (Kd.slice 3 (Kd.int .i64)) _ 24 ?hg (N := 16) ?hd (xs := ([] : List (List Int))) (inner := []) (ok := fun _ => True) (okp := fun _ => True) ?hr ?hp (fun _ hk => hk) trivial (Below.refl _ _) (Nat.le_refl _) (by simp) ?_; (case hd => rfl); (case hg => rfl); (case hr => first | (go_simp; done) | (go_simp; rfl)); (case hp => exact (Reps.none _ _)); intro v5 w5 ho5 hb hg_ hnew_; clear hg_; have HOB := a_ (show ∀ k_, v5.ownBlock = some k_ → w.heap.size ≤ k_ from fun k_ e_ => Nat.le_trans HB.out.size (Kd.S_base ho5 k_ e_)); have HO := a_ (Kd.S_lower ho5 HB.out.size); replace HD := a_ (HD.out.below hb); replace HV := a_ (Kd.V_below HV.out hb); replace HB := a_ (below_step HB.out hb); clear ho5 hb hnew_) | ((with_reducible refine gate_callee (f := 48) rfl ?_); refine goesL_ (some 19) rfl rfl Tryz.func48 (by kernel_rfl) rfl #[.slice A0 l0.length c0] rfl (by (try simp only [List.map_toArray, List.map_cons, List.map_nil]); first | done | rfl) ?_; (with_reducible refine (impl_orderKey.calls k A0 c0 l0 (keyB l0) _ (Kd.V_reads' HV.out).2.2 HC.out HK.out.2).mono ?_); rintro e w6 ⟨rfl, hb⟩; refine ⟨_, rfl, ?_⟩; replace HD := a_ (HD.out.below hb); replace HV := a_ (Kd.V_below HV.out hb); replace HO := a_ (Kd.S_below HO.out hb); replace HB := a_ (below_step HB.out hb); clear hb) | ((with_reducible refine gate_ (.lookup 63 (.tmp 17) (.tmp 19) false) rfl ?_); refine dep_look (.tmp 17) (.tmp 19) rfl rfl bm q l0 rfl rfl HD.out HK.out.1 ?_))
   clear HK HQ HM HC;go_loopg [0, 5, 6] k (fun gg v0 v5 v6 wr => ∃ (p : List Int) (out : List (List Int)) (left : Int) (okp : Nat → Prop), v6 = .int .i64 left ∧ Aside0 (llL k q ls gg p left out = some r) ∧ Aside0 (p.length = n) ∧ Aside0 (Kd.V (Kd.int .i64) 3 wr w.heap.size okp v0 p) ∧ Aside0 (Kd.S (Kd.slice 3 (Kd.int .i64)) 24 wr w.heap.size (fun _ => True) v5 out) ∧ Aside0 (∀ k_, okp k_ → some k_ ≠ v5.ownBlock) ∧ Aside0 (Dep wr bm q) ∧ Aside0 (Below w.heap.size w wr))
   case atStart => exact ⟨l0, [], lookD q l0, _, rfl, HF, ⟨HNL.out.symm⟩, HV, HO, ⟨fun k_ h_ e_ => by have := HOB.out k_ e_.symm; omega⟩, HD, HB⟩
   case round =>
    clear HF HV HO HOB HD HB;obtain ⟨wq, hwq⟩ : ∃ wq : World, wq = wr := ⟨_, rfl⟩;obtain ⟨p, out, left, okp, rfl, HF, HPL, HV, HO, HP, HD, HB⟩ := hrel;obtain ⟨Ap, cp, ep⟩ := Kd.V_slice HV.out;subst ep;obtain ⟨vo, hvo⟩ : ∃ vo : Value, vo = u5 := ⟨_, rfl⟩;rw [← hvo] at HO HP ⊢
    cases gk with
    | zero => have hF := HF.out; simp [llL] at hF
    | succ gg =>
     have hF := HF.out;clear HF;simp only [llL] at hF;by_cases hpos : 0 < left
     case neg =>
      rw [if_neg hpos] at hF;obtain rfl := Option.some.inj hF;have c1 : decide (0 < left) = false := decide_eq_false hpos;have c2 : decide (left > 0) = false := decide_eq_false hpos;clear hF hpos hwq hvo;go_wp2;go_ret2;exact ⟨_, rfl, HO.out, HB.out⟩
     case pos =>
      rw [if_pos hpos] at hF;have c1 : decide (0 < left) = true := decide_eq_true hpos;have c2 : decide (left > 0) = true := decide_eq_true hpos;replace hF := Option.bind_eq_some_iff.mp hF;obtain ⟨res, hres, hF⟩ := hF;have HRES := a_ hres;have HREST := a_ hF
      have HPN : (p.length : Int) = (n : Int) := by rw [HPL.out]
      have HPN' := Lib.hid HPN;obtain ⟨s0, hs0⟩ : ∃ s0, s0 = wr.heap.size := ⟨_, rfl⟩;have HS0 := Lib.hid hs0;have HWR := a_ HB.out.size;replace HO := a_ (Kd.S_mono (ok' := fun k_ => k_ < s0) (Kd.S_bound HO.out) (fun k_ h_ => by rw [hs0]; exact h_.2.2.1));have HV2 := a_ (Kd.V_mono (ok' := fun k_ => okp k_ ∧ k_ < s0) (Kd.V_bound HV.out) (fun k_ h_ => ⟨h_.1, by rw [hs0]; exact h_.2⟩));have HOL := a_ (show ∀ k_, vo.ownBlock = some k_ → k_ < s0 from fun k_ e_ => (Kd.S_R HO.out).1 k_ e_);clear hres hF hpos hwq HV HPN hs0 hvo;have HV := HV2;clear HV2;go_wp2_with (first | ((with_reducible refine gate_callee (f := 50) rfl ?_); refine goesL_ (some 27) rfl rfl Tryz.func50 (by kernel_rfl) rfl #[.int .i64 (n : Int), .slice none ([] : List Int).length 0, .int .i64 ((0 : Nat) : Int), .slice none 0 0] rfl (by (try simp only [List.map_toArray, List.map_cons, List.map_nil]); rw [← HPN'.out]; first | done | rfl) ?_; refine (allLevels_gen n HN.out.1 HN.out.2 8 0 none 0 [] (.slice none 0 0) [] (fun _ => False) (fun _ => False) wr _ (by omega) (by have := HN.out; omega) (by simp) (by have := HL.out; rw [← HNL.out] at this; simp; omega) (Below.refl _ _) (Kd.R_nil _ _ _ _ _) (Kd.S_nil _ _ _ _ _) (fun _ h => h.elim)).mono ?_; rintro e w7 ⟨v7, rfl, hS, hb, _, _⟩; refine ⟨_, rfl, ?_⟩; simp only [List.nil_append] at hS; rw [show lvl (n - 1) 8 0 [] = ls by rw [HLS.out, HNL.out]] at hS; have HLV := a_ (Kd.S_mono (ok' := fun k_ => s0 ≤ k_) hS (fun k_ h_ => by rw [HS0.out]; exact h_.elim (fun h_ => h_.elim) (fun h_ => h_.elim (fun h_ => h_.elim) id))); obtain ⟨AL, cL, eL⟩ := Kd.S_slice HLV.out; subst eL; replace HV := a_ (Kd.V_below HV.out hb); replace HO := a_ (Kd.S_below HO.out hb); replace HD := a_ (HD.out.below hb); replace HB := a_ (below_step HB.out hb); have HSL := a_ (show s0 ≤ w7.heap.size by rw [HS0.out]; exact hb.size); clear hS hb));clear c1 c2
      go_loopg [0, 5, 29] ls.length (fun gh v0 v5 v29 wi => ∃ j : Nat, v0 = .slice Ap p.length cp ∧ v5 = vo ∧ v29 = .int .i64 (j : Int) ∧ Aside0 (llIn k q p left (ls.drop j) = some res) ∧ j ≤ ls.length ∧ ls.length - j ≤ gh ∧ Aside0 (Kd.V (Kd.int .i64) 3 wi w.heap.size (fun k_ => okp k_ ∧ k_ < s0) (.slice Ap p.length cp) p) ∧ Aside0 (Kd.S (Kd.slice 3 (Kd.int .i64)) 24 wi w.heap.size (fun k_ => k_ < s0) vo out) ∧ Aside0 (Kd.S (Kd.slice 3 (Kd.int .i64)) 24 wi wr.heap.size (fun k_ => s0 ≤ k_) (.slice AL ls.length cL) ls) ∧ Aside0 (Dep wi bm q) ∧ Aside0 (Below w.heap.size w wi) ∧ Aside0 (s0 ≤ wi.heap.size))
      case atStart => exact ⟨0, rfl, rfl, rfl, ⟨by rw [List.drop_zero]; exact HRES.out⟩, Nat.zero_le _, by omega, HV, HO, HLV, HD, HB, HSL⟩
      case round =>
       clear HV HO HLV HD HB HRES HSL;obtain ⟨wj, hwj⟩ : ∃ wj : World, wj = wr := ⟨_, rfl⟩;obtain ⟨j, e0, e5, rfl, HIN, hj, hgh, HV, HO, HLV, HD, HB, HSL⟩ := hrel;subst e0;subst e5;by_cases hjl : j < ls.length
       ·have hlj : ls[j]? = some ls[j] := List.getElem?_eq_getElem hjl;obtain ⟨lv, hlv⟩ : ∃ lv, lv = ls[j] := ⟨_, rfl⟩;rw [← hlv] at hlj;have hI := HIN.out;rw [List.drop_eq_getElem_cons hjl, ← hlv] at hI;simp only [llIn] at hI;replace hI := Option.bind_eq_some_iff.mp hI;obtain ⟨x, hx1, hI⟩ := hI;by_cases hk2 : keyOk k x = true
        case neg => rw [if_neg hk2] at hI; cases hI
        rw [if_pos hk2] at hI;obtain ⟨adl, Al, cl, eal, hxl, hRl⟩ := s_at HLV.out j hlj
        cases eal
        have c1 : decide ((j : Int) < (ls.length : Int)) = true := decide_eq_true (by omega);have c2 : decide (j < ls.length) = true := decide_eq_true hjl;have p2 : (0 ≤ (j : Int)) = True := eq_true (by omega);have q3 : ((j : Int) < (ls.length : Int)) = True := eq_true (by omega);have HVP : Aside0 (Kd.V (Kd.int .i64) 3 wr wr.heap.size (fun k_ => okp k_ ∧ k_ < s0) (.slice Ap p.length cp) p) := ⟨HV.out⟩;have HRL := a_ hRl;have HX := a_ hx1;have HKX := a_ (keyOk_ok hk2);have HJ := Lib.hid hjl;have HG := Lib.hid (show ls.length - (j + 1) ≤ gk - 1 ∧ gk - 1 < gk by omega);have HWJ := Lib.hid (show wrap64 ((j : Int) + 1) = ((j + 1 : Nat) : Int) by have := HL.out; rw [← HLS.out] at this; unfold wrap64; omega);clear hlj hlv hk2 hx1 hjl hgh hj HIN hRl;by_cases hit : lookD q x = wrap64 (left - 1)
        ·rw [if_pos hit] at hI;obtain rfl := Option.some.inj hI;have hF := HREST.out;simp only at hF;by_cases hc : out.length < 1000 ∧ p.length = x.length
         case neg => rw [if_neg hc] at hF; cases hF
         rw [if_pos hc] at hF;have HOUT := Lib.hid hc.1;have HXL := a_ hc.2;have HF2 := a_ hF;have c3 : decide (lookD q x = wrap64 (left - 1)) = true := decide_eq_true hit
         have c4 : (lookD q x == wrap64 (left - 1)) = true := by rw [hit]; simp
         clear hI hit hF hc HREST hwj
         go_wp2_with (first | ((with_reducible refine gate_callee (f := 51) rfl ?_); refine goesL_ (some 35) rfl rfl Tryz.func51 (by kernel_rfl) rfl #[.slice Ap p.length cp, .slice Al lv.length cl] rfl (by (try simp only [List.map_toArray, List.map_cons, List.map_nil]); first | done | rfl) ?_; (with_reducible refine (impl_laid.calls k _ Ap cp p Al cl lv x _ HVP.out (Kd.R_reads' HRL.out).2.2 (Kd.R_reads' HRL.out).2.1 HX.out).mono ?_); rintro ee w8 ⟨v8, rfl, hV, hb⟩; refine ⟨_, rfl, ?_⟩; obtain ⟨Ax, cx, ex⟩ := Kd.V_slice hV; subst ex; have HVX := a_ (Kd.V_mono (ok' := fun k_ => some k_ ≠ u5.ownBlock) hV (fun k_ h_ => h_.elim (fun h1 => HP.out k_ h1.1) (fun hn e_ => by have := HOL.out k_ e_.symm; have := HSL.out; omega))); replace HV := a_ (Kd.V_below HV.out hb); replace HO := a_ (Kd.S_below HO.out hb); replace HLV := a_ (Kd.S_below HLV.out hb); replace HRL := a_ (Kd.R_below HRL.out hb); replace HD := a_ (HD.out.below hb); replace HB := a_ (below_step HB.out hb); replace HSL := a_ (Nat.le_trans HSL.out hb.size); clear hb hV hxl HVP) | ((with_reducible refine gate_callee (f := 48) rfl ?_); refine goesL_ (some 38) rfl rfl Tryz.func48 (by kernel_rfl) rfl #[.slice Ax x.length cx] rfl (by (try simp only [List.map_toArray, List.map_cons, List.map_nil]); first | done | rfl) ?_; (with_reducible refine (impl_orderKey.calls k Ax cx x (keyB x) _ (Kd.V_reads' HVX.out).2.2 (Kd.V_reads' HVX.out).2.1 HKX.out.2).mono ?_); rintro ee w9 ⟨rfl, hb⟩; refine ⟨_, rfl, ?_⟩; replace HVX := a_ (Kd.V_below HVX.out hb); replace HV := a_ (Kd.V_below HV.out hb); replace HO := a_ (Kd.S_below HO.out hb); replace HLV := a_ (Kd.S_below HLV.out hb); replace HRL := a_ (Kd.R_below HRL.out hb); replace HD := a_ (HD.out.below hb); replace HB := a_ (below_step HB.out hb); replace HSL := a_ (Nat.le_trans HSL.out hb.size); clear hb) | ((with_reducible refine gate_ (.lookup 63 (.tmp 36) (.tmp 38) false) rfl ?_); refine dep_look (.tmp 36) (.tmp 38) rfl rfl bm q x rfl rfl HD.out HKX.out.1 ?_) | ((with_reducible refine gate_builtin (b := .append) (xs := #[.tmp 43, .tmp 45]) rfl ?_); at_builtin; refine Kd.S_append (Kd.slice 3 (Kd.int .i64)) (w0 := w) w.heap.size rfl (.tmp 43) (.tmp 45) 28 24 (.slice none 0 0) 24 rfl Tryz.underlying28 info24 rfl (by decide) (by omega) u5 out lv [.slice Al lv.length cl] (fun _ => True) (fun k_ => s0 ≤ k_) rfl rfl ⟨_, rfl, Kd.R_mono (Kd.R_lower HRL.out HWR.out) (fun _ h_ => h_.1)⟩ (fun k_ h_ => ⟨trivial, fun e_ => by have := HOL.out k_ e_.symm; omega⟩) (fun _ _ => trivial) (Kd.S_mono HO.out (fun k_ h_ => ⟨trivial, by omega⟩)) HB.out HB.out.size (by have := HOUT.out; omega) ?_; intro v10 w10 hS hb hg hat; have HVX2 := a_ (Kd.V_bound HVX.out); replace HVX := a_ (Kd.V_step HVX2.out (fun k_ h_ hl_ => hg.block k_ hl_ h_.1)); have HP2 := a_ (show ∀ k_, (some k_ ≠ u5.ownBlock ∧ k_ < w9.heap.size) → some k_ ≠ v10.ownBlock from fun k_ h_ e_ => hat.elim (fun hat => h_.1 (e_.trans hat)) (fun hx_ => by obtain ⟨b_, hb_, hle_⟩ := hx_; rw [hb_] at e_; injection e_ with e_; have := h_.2; omega)); replace HD := a_ (HD.out.kept hg (fun e_ => by obtain ⟨c_, hc_⟩ := Kd.S_typed HO.out bm e_.symm; exact HD.out.ne_cells hc_ rfl)); have HO2 := a_ hS; have HB2 := a_ hb; clear HB; have HB := HB2; clear HB2 hS hb hg hat HVX2))
         go_roundg gg
         case measure => exact Nat.lt_succ_self _
         case rel => exact ⟨x, out ++ [lv], wrap64 (left - 1), (fun k_ => some k_ ≠ u5.ownBlock ∧ k_ < w9.heap.size), rfl, HF2, ⟨by rw [← HXL.out]; exact HPL.out⟩, ⟨HVX.out⟩, HO2, HP2, HD, HB⟩
        ·rw [if_neg hit] at hI;have HI := a_ hI;have c3 : decide (lookD q x = wrap64 (left - 1)) = false := decide_eq_false hit
         have c4 : (lookD q x == wrap64 (left - 1)) = false := by simpa using hit
         clear hI hit hwj
         go_wp2_with (first | ((with_reducible refine gate_callee (f := 51) rfl ?_); refine goesL_ (some 35) rfl rfl Tryz.func51 (by kernel_rfl) rfl #[.slice Ap p.length cp, .slice Al lv.length cl] rfl (by (try simp only [List.map_toArray, List.map_cons, List.map_nil]); first | done | rfl) ?_; (with_reducible refine (impl_laid.calls k _ Ap cp p Al cl lv x _ HVP.out (Kd.R_reads' HRL.out).2.2 (Kd.R_reads' HRL.out).2.1 HX.out).mono ?_); rintro ee w8 ⟨v8, rfl, hV, hb⟩; refine ⟨_, rfl, ?_⟩; obtain ⟨Ax, cx, ex⟩ := Kd.V_slice hV; subst ex; have HVX := a_ (Kd.V_mono (ok' := fun k_ => some k_ ≠ u5.ownBlock) hV (fun k_ h_ => h_.elim (fun h1 => HP.out k_ h1.1) (fun hn e_ => by have := HOL.out k_ e_.symm; have := HSL.out; omega))); replace HV := a_ (Kd.V_below HV.out hb); replace HO := a_ (Kd.S_below HO.out hb); replace HLV := a_ (Kd.S_below HLV.out hb); replace HRL := a_ (Kd.R_below HRL.out hb); replace HD := a_ (HD.out.below hb); replace HB := a_ (below_step HB.out hb); replace HSL := a_ (Nat.le_trans HSL.out hb.size); clear hb hV hxl HVP) | ((with_reducible refine gate_callee (f := 48) rfl ?_); refine goesL_ (some 38) rfl rfl Tryz.func48 (by kernel_rfl) rfl #[.slice Ax x.length cx] rfl (by (try simp only [List.map_toArray, List.map_cons, List.map_nil]); first | done | rfl) ?_; (with_reducible refine (impl_orderKey.calls k Ax cx x (keyB x) _ (Kd.V_reads' HVX.out).2.2 (Kd.V_reads' HVX.out).2.1 HKX.out.2).mono ?_); rintro ee w9 ⟨rfl, hb⟩; refine ⟨_, rfl, ?_⟩; replace HVX := a_ (Kd.V_below HVX.out hb); replace HV := a_ (Kd.V_below HV.out hb); replace HO := a_ (Kd.S_below HO.out hb); replace HLV := a_ (Kd.S_below HLV.out hb); replace HRL := a_ (Kd.R_below HRL.out hb); replace HD := a_ (HD.out.below hb); replace HB := a_ (below_step HB.out hb); replace HSL := a_ (Nat.le_trans HSL.out hb.size); clear hb) | ((with_reducible refine gate_ (.lookup 63 (.tmp 36) (.tmp 38) false) rfl ?_); refine dep_look (.tmp 36) (.tmp 38) rfl rfl bm q x rfl rfl HD.out HKX.out.1 ?_))
         go_roundg (gk - 1)
         case measure => exact HG.out.2
         case rel => exact ⟨j + 1, rfl, rfl, (by rw [HWJ.out]), HI, HJ.out, HG.out.1, HV, HO, HLV, HD, HB, HSL⟩
       ·have c1 : decide ((j : Int) < (ls.length : Int)) = false := decide_eq_false (by omega);have c2 : decide (j < ls.length) = false := decide_eq_false (by omega);have hI := HIN.out;rw [List.drop_of_length_le (by omega)] at hI;simp only [llIn] at hI;obtain rfl := Option.some.inj hI;have HF2 := a_ (show llL k q ls gg p (wrap64 (left - 1)) out = some r from HREST.out);clear hI hjl hj hgh HIN HREST hwj;go_wp2;go_roundg gg
        case measure => exact Nat.lt_succ_self _
        case rel => exact ⟨p, out, wrap64 (left - 1), (fun k_ => okp k_ ∧ k_ < s0), rfl, HF2, HPL, HV, ⟨Kd.S_mono HO.out (fun _ _ => trivial)⟩, ⟨fun k_ h_ => HP.out k_ h_.1⟩, HD, HB⟩


/-! ### spec_l1Has: function 89 -/
def spec_l1Has.l0 : Nat → Int → List Int → Int → Int → Option (Bool)
 | 0, _, _, _, _ => none
 | k + 1, x1, x7, x8, x9 => if x9 < x8 then (if 0 ≤ x9 then (if x9 < (x7.length : Int) then (if (rd x7 x9) = x1 then (some true) else (spec_l1Has.l0 k x1 x7 x8 (wrap64 (x9 + 1)))) else (none)) else (none)) else (some false)
def spec_l1Has.f (k : Nat) (l0 : List Int) (a1 : Int) : Option (Bool) := spec_l1Has.l0 k a1 l0 (l0.length : Int) 0
theorem spec_l1Has.mono_l : ∀ k, (∀ y0 y1 y2 y3, LeO (spec_l1Has.l0 k y0 y1 y2 y3) (spec_l1Has.l0 (k + 1) y0 y1 y2 y3))
 | 0 => fun _ _ _ _ r h => by simp [spec_l1Has.l0] at h
 | k + 1 => by
  have ih0 := spec_l1Has.mono_l k
  ·intro y0 y1 y2 y3;unfold spec_l1Has.l0;exact mo_
theorem spec_l1Has.mono : ∀ a0 a1 k, LeO (spec_l1Has.f k a0 a1) (spec_l1Has.f (k + 1) a0 a1) := by
 intro a0 a1 k;have ih0 := spec_l1Has.mono_l k;unfold spec_l1Has.f;exact mo_
theorem spec_l1Has.calls (k : Nat) (A0 : Option Addr) (c0 : Nat) (l0 : List Int) (a1 : Int) (r : Bool) (w : World) (hr0 : Kd.C (Kd.int .i64) w A0 l0.length l0) (hc0 : l0.length ≤ c0) (h : spec_l1Has.f k l0 a1 = some r) :
 Calls Tryz.prog 89 #[.slice A0 l0.length c0, .int .i64 a1] w fun e w' => e = .returned (.bool r) ∧ Drawn0 w w' := by
 have HR0 := a_ hr0;have HC0 := a_ hc0;clear hr0 hc0;have H := h;unfold spec_l1Has.f at H;clear h;have H' := a_ H;clear H;go_enter Tryz.func89, Tryz.ntmps89;go_wp2;go_loopg [9] k (fun kq v9 w' => ∃ (x9_1 : Int), v9 = .int .i64 x9_1 ∧ Aside0 (spec_l1Has.l0 kq a1 l0 (l0.length : Int) x9_1 = some r) ∧ Aside0 (kq ≤ k) ∧ Drawn0 w w')
 case atStart => exact ⟨(0), rs_, H', ⟨Nat.le_refl _⟩, dr_⟩
 case round =>
  clear H';obtain ⟨x9_1, rfl, HA, HK1, ⟨m1, rfl⟩⟩ := hrel
  cases gk with
  | zero => exact absurd HA.out (by simp [spec_l1Has.l0])
  | succ k1 =>
   have H := HA.out;clear HA;simp only [spec_l1Has.l0] at H;rcases ib_ H with ⟨c3, H⟩ | ⟨c3, H⟩
   ·have c3b0 := decide_eq_false c3;clear c3;obtain rfl := s1_ H;go_wp2;go_ret;exact ⟨rs_, dr_⟩
   have c3b0 := decide_eq_true c3;clear c3;obtain ⟨c4b0, H⟩ := ic_ H;obtain ⟨c5b0, H⟩ := ic_ H;rcases ij_ H with ⟨c6, H⟩ | ⟨c6, H⟩
   ·obtain ⟨c6b0, c6b1⟩ := qt_ c6;clear c6;obtain rfl := s1_ H;obtain ⟨ad544, e544, hx544_0, p544, q544⟩ := ai_ HR0.out x9_1
    cases e544;go_wp2;go_ret;exact ⟨rs_, dr_⟩
   obtain ⟨c6b0, c6b1⟩ := qf_ c6;have H' := a_ H;clear H;obtain ⟨ad544, e544, hx544_0, p544, q544⟩ := ai_ HR0.out x9_1
   cases e544;go_wp2;go_roundg k1
   case measure => have := HK1.out; omega
   case rel => exact ⟨(wrap64 (x9_1 + 1)), rs_, H', ⟨by have := HK1.out; omega⟩, dr_⟩

/-! ### spec_laOrder: function 60 -/
def spec_laOrder.l0 : Nat → List Int → List Int → Int → Int → Option (Bool)
 | 0, _, _, _, _ => none
 | k + 1, x0, x9, x10, x11 => if x11 < x10 then (if 0 ≤ x11 then (if x11 < (x9.length : Int) then ((spec_l1In.f (rd x9 x11) 0 (wrap64 ((x0.length : Int) - 1))).bind fun t547 => (if t547 = true then (if x11 ≤ (x0.length : Int) then ((spec_l1Has.f k (x0.take (x11 : Int).toNat) (rd x9 x11)).bind fun t549 => (if t549 = true then (some false) else (spec_laOrder.l0 k x0 x9 x10 (wrap64 (x11 + 1))))) else (none)) else (some false))) else (none)) else (none)) else (some true)
def spec_laOrder.f (k : Nat) (l0 : List Int) : Option (Bool) := (spec_l1In.f (l0.length : Int) 1 8).bind fun t545 => (if t545 = true then (spec_laOrder.l0 k l0 l0 (l0.length : Int) 0) else (some false))
theorem spec_laOrder.mono_l : ∀ k, (∀ y0 y1 y2 y3, LeO (spec_laOrder.l0 k y0 y1 y2 y3) (spec_laOrder.l0 (k + 1) y0 y1 y2 y3))
 | 0 => fun _ _ _ _ r h => by simp [spec_laOrder.l0] at h
 | k + 1 => by
  have ih0 := spec_laOrder.mono_l k
  ·intro y0 y1 y2 y3;unfold spec_laOrder.l0;have m1 := @spec_l1Has.mono;exact mo_
theorem spec_laOrder.mono : ∀ a0 k, LeO (spec_laOrder.f k a0) (spec_laOrder.f (k + 1) a0) := by
 intro a0 k;have ih0 := spec_laOrder.mono_l k;unfold spec_laOrder.f;exact mo_
theorem spec_laOrder.calls (k : Nat) (A0 : Option Addr) (c0 : Nat) (l0 : List Int) (r : Bool) (w : World) (hr0 : Kd.C (Kd.int .i64) w A0 l0.length l0) (hc0 : l0.length ≤ c0) (h : spec_laOrder.f k l0 = some r) :
 Calls Tryz.prog 60 #[.slice A0 l0.length c0] w fun e w' => e = .returned (.bool r) ∧ Drawn0 w w' := by
 have HR0 := a_ hr0;have HC0 := a_ hc0;clear hr0 hc0;have H := h;unfold spec_laOrder.f at H;clear h;obtain ⟨t545, A2, H⟩ := ob_ H;(try dsimp only at H);replace H := bc_ H;rcases H with ⟨rfl, H⟩ | ⟨rfl, H⟩
 ·obtain rfl := s1_ H;go_enter Tryz.func60, Tryz.ntmps60;go_wp2_with (first | ((with_reducible refine gc_ 73 ?_);refine gn_ (some 7) Tryz.func73 (spec_l1In.calls (l0.length : Int) 1 8 false _ A2.out) rfl ?_;rintro w' ⟨nd, rfl⟩));go_ret;exact ⟨rs_, dr_⟩
 have H' := a_ H;clear H;go_enter Tryz.func60, Tryz.ntmps60;go_wp2_with (first | ((with_reducible refine gc_ 73 ?_);refine gn_ (some 7) Tryz.func73 (spec_l1In.calls (l0.length : Int) 1 8 true _ A2.out) rfl ?_;rintro w' ⟨nd, rfl⟩));go_loopg [11] k (fun kq v11 w' => ∃ (x11_1 : Int), v11 = .int .i64 x11_1 ∧ Aside0 (spec_laOrder.l0 kq l0 l0 (l0.length : Int) x11_1 = some r) ∧ Aside0 (kq ≤ k) ∧ Drawn0 w w')
 case atStart => exact ⟨(0), rs_, H', ⟨Nat.le_refl _⟩, dr_⟩
 case round =>
  clear H';(try clear c3);obtain ⟨x11_1, rfl, HA, HK1, ⟨m1, rfl⟩⟩ := hrel
  cases gk with
  | zero => exact absurd HA.out (by simp [spec_laOrder.l0])
  | succ k1 =>
   have H := HA.out;clear HA;simp only [spec_laOrder.l0] at H;rcases ib_ H with ⟨c4, H⟩ | ⟨c4, H⟩
   ·have c4b0 := decide_eq_false c4;clear c4;obtain rfl := s1_ H;go_wp2;go_ret;exact ⟨rs_, dr_⟩
   have c4b0 := decide_eq_true c4;clear c4;obtain ⟨c5b0, H⟩ := ic_ H;obtain ⟨c6b0, H⟩ := ic_ H;obtain ⟨t547, A7, H⟩ := ob_ H;(try dsimp only at H);replace H := bc_ H;rcases H with ⟨rfl, H⟩ | ⟨rfl, H⟩
   ·obtain rfl := s1_ H;obtain ⟨ad546, e546, hx546_0, p546, q546⟩ := ai_ HR0.out x11_1
    cases e546;go_wp2_with (first | ((with_reducible refine gc_ 73 ?_);refine gn_ (some 20) Tryz.func73 (spec_l1In.calls (rd l0 x11_1) 0 (wrap64 ((l0.length : Int) - 1)) false _ A7.out) rfl ?_;rintro w' ⟨nd, rfl⟩));go_ret;exact ⟨rs_, dr_⟩
   have c9b0 := eq_true (od_ : 0 ≤ x11_1);obtain ⟨c10, H⟩ := in_ H;have c10b0 := eq_true c10;have c10b1 : decide (x11_1 ≤ (l0.length : Int)) = true := decide_eq_true c10;clear c10;obtain ⟨t549, A11, H⟩ := ob_ H;(try dsimp only at H);replace H := bd_ H;rcases H with ⟨rfl, H⟩ | ⟨rfl, H⟩
   ·obtain rfl := s1_ H;obtain ⟨ad546, e546, hx546_0, p546, q546⟩ := ai_ HR0.out x11_1
    cases e546;go_wp2_with (first | ((with_reducible refine gc_ 73 ?_);refine gn_ (some 20) Tryz.func73 (spec_l1In.calls (rd l0 x11_1) 0 (wrap64 ((l0.length : Int) - 1)) true _ A7.out) rfl ?_;rintro w' ⟨nd, rfl⟩; obtain ⟨i013, hi013, _, hsz13, _⟩ := info_parts info3; obtain ⟨hcut13, hA13, hC13⟩ := print_take_of (P := Tryz.prog) (Value.int .i64) 0 24 3 .i64 Tryz.underlying24 hi013 hsz13 (some ad546) c0 l0 x11_1 (od_) (od_) HC0.out; have HR548 := a_ (Kd.C_of_reads (h1 := fun _ => rfl) (hA13 _ (Kd.reads_of_C HR0.out))); have HC548 := a_ hC13; clear hA13 hC13 hi013 hsz13) | (go_at_call 89; refine calls_of_args (args' := #[.slice (some ad546) (l0.take (x11_1 : Int).toNat).length c0, .int .i64 (rd l0 x11_1)]) (by first | rfl | rw [show (l0.take (x11_1 : Int).toNat).length = (x11_1 : Int).toNat from by rw [List.length_take]; have h1_ : x11_1 ≤ (l0.length : Int) := of_decide_eq_true (by assumption); omega]) ?_; (with_reducible refine (spec_l1Has.calls k1 _ _ (l0.take (x11_1 : Int).toNat) (rd l0 x11_1) true _ ?side1 ?side2 A11.out).mono ?_); (case side1 => repeat (first | exact HR548.out | (with_reducible refine Kd.C_alloc ?_ _) | (with_reducible refine Kd.C_drewN ?_ _) | (with_reducible refine Kd.C_drew ?_))); (case side2 => exact HC548.out); rintro e w' ⟨rfl, ⟨nd, rfl⟩⟩));go_ret;exact ⟨rs_, dr_⟩
   have H' := a_ H;clear H;obtain ⟨ad546, e546, hx546_0, p546, q546⟩ := ai_ HR0.out x11_1
   cases e546;go_wp2_with (first | ((with_reducible refine gc_ 73 ?_);refine gn_ (some 20) Tryz.func73 (spec_l1In.calls (rd l0 x11_1) 0 (wrap64 ((l0.length : Int) - 1)) true _ A7.out) rfl ?_;rintro w' ⟨nd, rfl⟩; obtain ⟨i014, hi014, _, hsz14, _⟩ := info_parts info3; obtain ⟨hcut14, hA14, hC14⟩ := print_take_of (P := Tryz.prog) (Value.int .i64) 0 24 3 .i64 Tryz.underlying24 hi014 hsz14 (some ad546) c0 l0 x11_1 (od_) (od_) HC0.out; have HR548 := a_ (Kd.C_of_reads (h1 := fun _ => rfl) (hA14 _ (Kd.reads_of_C HR0.out))); have HC548 := a_ hC14; clear hA14 hC14 hi014 hsz14) | (go_at_call 89; refine calls_of_args (args' := #[.slice (some ad546) (l0.take (x11_1 : Int).toNat).length c0, .int .i64 (rd l0 x11_1)]) (by first | rfl | rw [show (l0.take (x11_1 : Int).toNat).length = (x11_1 : Int).toNat from by rw [List.length_take]; have h1_ : x11_1 ≤ (l0.length : Int) := of_decide_eq_true (by assumption); omega]) ?_; (with_reducible refine (spec_l1Has.calls k1 _ _ (l0.take (x11_1 : Int).toNat) (rd l0 x11_1) false _ ?side1 ?side2 A11.out).mono ?_); (case side1 => repeat (first | exact HR548.out | (with_reducible refine Kd.C_alloc ?_ _) | (with_reducible refine Kd.C_drewN ?_ _) | (with_reducible refine Kd.C_drew ?_))); (case side2 => exact HC548.out); rintro e w' ⟨rfl, ⟨nd, rfl⟩⟩));go_roundg k1
   case measure => have := HK1.out; omega
   case rel => exact ⟨(wrap64 (x11_1 + 1)), rs_, H', ⟨by have := HK1.out; omega⟩, dr_⟩

/-! ### spec_lvMade: function 52 -/
def spec_lvMade.f (k : Nat) (l0 : List Int) : Option (Bool) := (spec_laOrder.f k l0).bind fun t550 => (if t550 = true then ((spec_l1In.f (l0.length : Int) 2 6).bind fun t551 => (some t551)) else (some false))
theorem spec_lvMade.mono : ∀ a0 k, LeO (spec_lvMade.f k a0) (spec_lvMade.f (k + 1) a0) := by
 intro a0 k;unfold spec_lvMade.f;have m1 := @spec_laOrder.mono;exact mo_
theorem spec_lvMade.calls (k : Nat) (A0 : Option Addr) (c0 : Nat) (l0 : List Int) (r : Bool) (w : World) (hr0 : Kd.C (Kd.int .i64) w A0 l0.length l0) (hc0 : l0.length ≤ c0) (h : spec_lvMade.f k l0 = some r) :
 Calls Tryz.prog 52 #[.slice A0 l0.length c0] w fun e w' => e = .returned (.bool r) ∧ Drawn0 w w' := by
 have HR0 := a_ hr0;have HC0 := a_ hc0;clear hr0 hc0;have H := h;unfold spec_lvMade.f at H;clear h;obtain ⟨t550, A2, H⟩ := ob_ H;(try dsimp only at H);replace H := bc_ H;rcases H with ⟨rfl, H⟩ | ⟨rfl, H⟩
 ·obtain rfl := s1_ H;go_enter Tryz.func52, Tryz.ntmps52;go_wp2_with (first | ((with_reducible refine gate_callee (f := 60) rfl ?_); refine gm_ (some 4) Tryz.func60 #[.slice A0 l0.length c0] rfl ?_; (with_reducible refine (spec_laOrder.calls k _ _ l0 false _ ?side1 ?side2 A2.out).mono ?_); (case side1 => repeat (first | exact HR0.out | (with_reducible refine Kd.C_alloc ?_ _) | (with_reducible refine Kd.C_drewN ?_ _) | (with_reducible refine Kd.C_drew ?_))); (case side2 => exact HC0.out); rintro e w' ⟨rfl, ⟨nd, rfl⟩⟩; refine ⟨_, rfl, ?_⟩));go_ret;exact ⟨rs_, dr_⟩
 obtain ⟨t551, A4, H⟩ := ob_ H;(try dsimp only at H);obtain rfl := s1_ H;go_enter Tryz.func52, Tryz.ntmps52;go_wp2_with (first | ((with_reducible refine gate_callee (f := 60) rfl ?_); refine gm_ (some 4) Tryz.func60 #[.slice A0 l0.length c0] rfl ?_; (with_reducible refine (spec_laOrder.calls k _ _ l0 true _ ?side1 ?side2 A2.out).mono ?_); (case side1 => repeat (first | exact HR0.out | (with_reducible refine Kd.C_alloc ?_ _) | (with_reducible refine Kd.C_drewN ?_ _) | (with_reducible refine Kd.C_drew ?_))); (case side2 => exact HC0.out); rintro e w' ⟨rfl, ⟨nd, rfl⟩⟩; refine ⟨_, rfl, ?_⟩) | (go_at_call 73; (with_reducible refine (spec_l1In.calls (l0.length : Int) 2 6 t551 _ A4.out).mono ?_); rintro e w' ⟨rfl, ⟨nd, rfl⟩⟩));go_ret;exact ⟨rs_, dr_⟩

/-! ### spec_alRank: function 54 -/
mutual
def spec_alRank.l0 : Nat → List Int → Int → List Int → Int → Int → Option (Int)
 | 0, _, _, _, _, _ => none
 | k + 1, x0, x3, x9, x10, x11 => if x11 < x10 then (if 0 ≤ x11 then (if x11 < (x9.length : Int) then (if 0 ≤ (wrap64 (x11 + 1)) then (if (wrap64 (x11 + 1)) ≤ (x0.length : Int) then (spec_alRank.l1 k x0 x3 x11 (rd x9 x11) 0 x9 x10 x11 (x0.drop ((wrap64 (x11 + 1)) : Int).toNat) ((x0.drop ((wrap64 (x11 + 1)) : Int).toNat).length : Int) 0) else (none)) else (none)) else (none)) else (none)) else (some x3)
def spec_alRank.l1 : Nat → List Int → Int → Int → Int → Int → List Int → Int → Int → List Int → Int → Int → Option (Int)
 | 0, _, _, _, _, _, _, _, _, _, _, _ => none
 | k + 1, x0, x3, x4, x5, x6, x9, x10, x11, x19, x20, x21 => if x21 < x20 then (if 0 ≤ x21 then (if x21 < (x19.length : Int) then (if (rd x19 x21) < x5 then (spec_alRank.l1 k x0 x3 x4 x5 (wrap64 (x6 + 1)) x9 x10 x11 x19 x20 (wrap64 (x21 + 1))) else (spec_alRank.l1 k x0 x3 x4 x5 x6 x9 x10 x11 x19 x20 (wrap64 (x21 + 1)))) else (none)) else (none)) else (spec_alRank.l0 k x0 (wrap64 ((wrap64 (x3 * (wrap64 ((x0.length : Int) - x4)))) + x6)) x9 x10 (wrap64 (x11 + 1)))
end
def spec_alRank.f (k : Nat) (l0 : List Int) : Option (Int) := spec_alRank.l0 k l0 0 l0 (l0.length : Int) 0
theorem spec_alRank.mono_l : ∀ k, (∀ y0 y1 y2 y3 y4, LeO (spec_alRank.l0 k y0 y1 y2 y3 y4) (spec_alRank.l0 (k + 1) y0 y1 y2 y3 y4)) ∧ (∀ y0 y1 y2 y3 y4 y5 y6 y7 y8 y9 y10, LeO (spec_alRank.l1 k y0 y1 y2 y3 y4 y5 y6 y7 y8 y9 y10) (spec_alRank.l1 (k + 1) y0 y1 y2 y3 y4 y5 y6 y7 y8 y9 y10))
 | 0 => ⟨fun _ _ _ _ _ r h => by simp [spec_alRank.l0] at h, fun _ _ _ _ _ _ _ _ _ _ _ r h => by simp [spec_alRank.l1] at h⟩
 | k + 1 => by
  obtain ⟨ih0, ih1⟩ := spec_alRank.mono_l k;refine ⟨?_, ?_⟩
  ·intro y0 y1 y2 y3 y4;unfold spec_alRank.l0;exact mo_
  ·intro y0 y1 y2 y3 y4 y5 y6 y7 y8 y9 y10;unfold spec_alRank.l1;exact mo_
theorem spec_alRank.mono : ∀ a0 k, LeO (spec_alRank.f k a0) (spec_alRank.f (k + 1) a0) := by
 intro a0 k;obtain ⟨ih0, ih1⟩ := spec_alRank.mono_l k;unfold spec_alRank.f;exact mo_
theorem spec_alRank.calls (k : Nat) (A0 : Option Addr) (c0 : Nat) (l0 : List Int) (r : Int) (w : World) (hr0 : Kd.C (Kd.int .i64) w A0 l0.length l0) (hc0 : l0.length ≤ c0) (h : spec_alRank.f k l0 = some r) :
 Calls Tryz.prog 54 #[.slice A0 l0.length c0] w fun e w' => e = .returned (.int .i64 r) ∧ Drawn0 w w' := by
 have HR0 := a_ hr0;have HC0 := a_ hc0;clear hr0 hc0;have H := h;unfold spec_alRank.f at H;clear h;have H' := a_ H;clear H;go_enter Tryz.func54, Tryz.ntmps54;go_wp2;go_loopg [3, 11] k (fun kq v3 v11 w' => ∃ (x3_1 : Int) (x11_1 : Int), v3 = .int .i64 x3_1 ∧ v11 = .int .i64 x11_1 ∧ Aside0 (spec_alRank.l0 kq l0 x3_1 l0 (l0.length : Int) x11_1 = some r) ∧ Aside0 (kq ≤ k) ∧ Drawn0 w w')
 case atStart => exact ⟨(0), (0), rs_, rs_, H', ⟨Nat.le_refl _⟩, dr_⟩
 case round =>
  as_aux_lemma =>
  clear H';obtain ⟨x3_1, x11_1, rfl, rfl, HA, HK1, ⟨m1, rfl⟩⟩ := hrel
  cases gk with
  | zero => exact absurd HA.out (by simp [spec_alRank.l0])
  | succ k1 =>
   have H := HA.out;clear HA;simp only [spec_alRank.l0] at H;rcases ib_ H with ⟨c2, H⟩ | ⟨c2, H⟩
   ·have c2b0 := decide_eq_false c2;clear c2;obtain rfl := s1_ H;go_wp2;go_ret;exact ⟨rs_, dr_⟩
   have c2b0 := decide_eq_true c2;clear c2;obtain ⟨c3b0, H⟩ := ic_ H;obtain ⟨c4b0, H⟩ := ic_ H;obtain ⟨ji5, hji5⟩ : ∃ j_ : Int, (wrap64 (x11_1 + 1)) = j_ := ⟨_, rfl⟩;(first | rw [hji5] at H | simp only [hji5] at H)
   have hji5w : (IntKind.i64.wrap (x11_1 + 1)) = ji5 := (i64_w _).trans hji5;obtain ⟨c6, H⟩ := in_ H;have c6b0 := eq_true c6;have c6b1 : decide (0 ≤ (ji5)) = true := decide_eq_true c6;clear c6;by_cases c7 : (ji5) ≤ (l0.length : Int);rotate_left
   ·rw [if_neg c7] at H
    cases H
   rw [if_pos c7] at H;have c7b0 := eq_true c7;have c7b1 : decide ((ji5) ≤ (l0.length : Int)) = true := decide_eq_true c7;clear c7;have H' := a_ H;clear H;obtain ⟨ad552, e552, hx552_0, p552, q552⟩ := ai_ HR0.out x11_1
   cases e552;obtain ⟨i08, hi08, _, hsz8, _⟩ := info_parts info3;obtain ⟨A8, hcut8, hA8, hC8⟩ := print_drop_of (P := Tryz.prog) (Value.int .i64) 0 24 3 .i64 Tryz.underlying24 hi08 hsz8 (some ad552) c0 l0 (ji5) (od_) (od_) HC0.out;have HR553 := a_ (Kd.C_of_reads (h1 := fun _ => rfl) (hA8 _ (Kd.reads_of_C HR0.out)));have HC553 := a_ hC8;clear hA8 hC8 hi08 hsz8;go_wp2;go_loopg [6, 21] k1 (fun kq v6 v21 w' => ∃ (x6_2 : Int) (x21_2 : Int), v6 = .int .i64 x6_2 ∧ v21 = .int .i64 x21_2 ∧ Aside0 (spec_alRank.l1 kq l0 x3_1 x11_1 (rd l0 x11_1) x6_2 l0 (l0.length : Int) x11_1 (l0.drop ((ji5) : Int).toNat) ((l0.drop ((ji5) : Int).toNat).length : Int) x21_2 = some r) ∧ Aside0 (kq ≤ k1) ∧ Drawn0 w w')
   case atStart => exact ⟨(0), (0), rs_, rs_, H', ⟨Nat.le_refl _⟩, dr_⟩
   case round =>
    clear H';(try clear c2b0);(try clear c3b0);(try clear c4b0);(try clear c6b0);(try clear c6b1);(try clear c7b0);(try clear c7b1);(try clear hx552_0);(try clear p552);(try clear q552);obtain ⟨x6_2, x21_2, rfl, rfl, HA, HK2, ⟨m2, rfl⟩⟩ := hrel
    cases gk with
    | zero => exact absurd HA.out (by simp [spec_alRank.l1])
    | succ k2 =>
     have H := HA.out;clear HA;simp only [spec_alRank.l1] at H;rcases ib_ H with ⟨c9, H⟩ | ⟨c9, H⟩
     ·have c9b0 := decide_eq_false c9
      have c9d0 : decide (x21_2 < ((l0.length - ((ji5) : Int).toNat : Nat) : Int)) = false := by rw [← List.length_drop]; exact c9b0
      clear c9;have H' := a_ H;clear H;go_wp2;go_roundg k2
      case measure => have := HK1.out; have := HK2.out; omega
      case rel => exact ⟨(wrap64 ((wrap64 (x3_1 * (wrap64 ((l0.length : Int) - x11_1)))) + x6_2)), (wrap64 (x11_1 + 1)), rs_, rs_, H', ⟨by have := HK1.out; have := HK2.out; omega⟩, dr_⟩
     have c9b0 := decide_eq_true c9
     have c9d0 : decide (x21_2 < ((l0.length - ((ji5) : Int).toNat : Nat) : Int)) = true := by rw [← List.length_drop]; exact c9b0
     clear c9;obtain ⟨c10b0, H⟩ := ic_ H;obtain ⟨c11, H⟩ := in_ H;have c11b0 := decide_eq_true c11
     have c11d0 : decide (x21_2 < ((l0.length - ((ji5) : Int).toNat : Nat) : Int)) = true := by rw [← List.length_drop]; exact c11b0
     clear c11;rcases ij_ H with ⟨c12, H⟩ | ⟨c12, H⟩
     ·have c12b0 := decide_eq_true c12;clear c12;have H' := a_ H;clear H;have p554 : 0 ≤ (x21_2 : Int) := od_;have q554 : x21_2 < ((l0.drop ((ji5) : Int).toNat).length : Int) := od_;have q554d : (x21_2 < ((l0.length - ((ji5) : Int).toNat : Nat) : Int)) = True := eq_true (by rw [← List.length_drop]; exact q554);obtain ⟨ad554, e554, hx554_0⟩ := Kd.at_int HR553.out x21_2 p554 q554
      cases e554
      replace p554 := eq_true p554;replace q554 := eq_true q554;go_wp2;go_roundg k2
      case measure => have := HK1.out; have := HK2.out; omega
      case rel => exact ⟨(wrap64 (x6_2 + 1)), (wrap64 (x21_2 + 1)), rs_, rs_, H', ⟨by have := HK1.out; have := HK2.out; omega⟩, dr_⟩
     have c12b0 := decide_eq_false c12;clear c12;have H' := a_ H;clear H;have p554 : 0 ≤ (x21_2 : Int) := od_;have q554 : x21_2 < ((l0.drop ((ji5) : Int).toNat).length : Int) := od_;have q554d : (x21_2 < ((l0.length - ((ji5) : Int).toNat : Nat) : Int)) = True := eq_true (by rw [← List.length_drop]; exact q554);obtain ⟨ad554, e554, hx554_0⟩ := Kd.at_int HR553.out x21_2 p554 q554
     cases e554
     replace p554 := eq_true p554;replace q554 := eq_true q554;go_wp2;go_roundg k2
     case measure => have := HK1.out; have := HK2.out; omega
     case rel => exact ⟨(x6_2), (wrap64 (x21_2 + 1)), rs_, rs_, H', ⟨by have := HK1.out; have := HK2.out; omega⟩, dr_⟩

/-! ### spec_lvAll: function 55 -/
mutual
def spec_lvAll.l0 : Nat → Int → List (List Int) → Int → Option ((List (List Int)))
 | 0, _, _, _ => none
 | k + 1, x0, x5, x6 => if x6 < (wrap64 (x0 - 1)) then ((spec_lvAll.f k x0 (wrap64 (x6 + 2))).bind fun t558 => (spec_lvAll.l1 k x0 x5 x6 t558 (t558.length : Int) 0)) else (some x5)
def spec_lvAll.l1 : Nat → Int → List (List Int) → Int → List (List Int) → Int → Int → Option ((List (List Int)))
 | 0, _, _, _, _, _, _ => none
 | k + 1, x0, x5, x6, x20, x21, x22 => if x22 < x21 then (if 0 ≤ x22 then (if x22 < (x20.length : Int) then ((some (([x6] : List Int) : List Int)).bind fun y562 => (if y562.length + (rd_L2 x20 x22).length < 17592186044416 then (if x5.length < 5864062014805 then (spec_lvAll.l1 k x0 (x5 ++ [(y562 ++ (rd_L2 x20 x22))]) x6 x20 x21 (wrap64 (x22 + 1))) else (none)) else (none))) else (none)) else (none)) else (spec_lvAll.l0 k x0 x5 (wrap64 (x6 + 1)))
def spec_lvAll.f : Nat → Int → Int → Option ((List (List Int)))
 | 0, _, _ => none
 | k + 1, a0, a1 => spec_lvAll.l0 k a0 (([[]] : List (List Int))) a1
end
theorem spec_lvAll.mono_l : ∀ k, (∀ y0 y1, LeO (spec_lvAll.f k y0 y1) (spec_lvAll.f (k + 1) y0 y1)) ∧ (∀ y0 y1 y2, LeO (spec_lvAll.l0 k y0 y1 y2) (spec_lvAll.l0 (k + 1) y0 y1 y2)) ∧ (∀ y0 y1 y2 y3 y4 y5, LeO (spec_lvAll.l1 k y0 y1 y2 y3 y4 y5) (spec_lvAll.l1 (k + 1) y0 y1 y2 y3 y4 y5))
 | 0 => ⟨fun _ _ r h => by simp [spec_lvAll.f] at h, fun _ _ _ r h => by simp [spec_lvAll.l0] at h, fun _ _ _ _ _ _ r h => by simp [spec_lvAll.l1] at h⟩
 | k + 1 => by
  obtain ⟨ih0, ih1, ih2⟩ := spec_lvAll.mono_l k;refine ⟨?_, ?_, ?_⟩
  ·intro y0 y1;unfold spec_lvAll.f;exact mo_
  ·intro y0 y1 y2;unfold spec_lvAll.l0;exact mo_
  ·intro y0 y1 y2 y3 y4 y5;unfold spec_lvAll.l1;exact mo_
theorem spec_lvAll.mono : ∀ a0 a1 k, LeO (spec_lvAll.f k a0 a1) (spec_lvAll.f (k + 1) a0 a1) := by
 intro a0 a1 k;obtain ⟨ih0, ih1, ih2⟩ := spec_lvAll.mono_l k;exact ih0 a0 a1
theorem spec_lvAll.calls (k : Nat) : ∀ (a0 : Int) (a1 : Int) (r : List (List Int)) (w : World) (h : spec_lvAll.f k a0 a1 = some r),
 Calls Tryz.prog 55 #[.int .i64 a0, .int .i64 a1] w fun e w' => ∃ v0_ : Value, e = .returned (v0_) ∧ Kd.S (Kd.slice 3 (Kd.int .i64)) 24 w' w.heap.size (fun _ => True) v0_ r ∧ Below w.heap.size w w' := by
 induction k using Nat.strongRecOn with
 | _ k ih =>
 intro a0 a1 r w h
 cases k with
 | zero => exact absurd h (by simp [spec_lvAll.f])
 | succ k =>
 simp only [spec_lvAll.f] at h;have HB := a_ (Below.refl w.heap.size w);have H : (spec_lvAll.l0 k a0 (([[]] : List (List Int))) a1) = some r := h;clear h;generalize hy_ : (([[]] : List (List Int))) = y555 at H;have Ny555 := a_ hy_.symm;clear hy_;have H' := a_ H;clear H;go_enter Tryz.func55, Tryz.ntmps55;go_wp2_with (first | ((with_reducible refine gate_dst (N := 9) rfl ?_); refine Kd.S_lit (Kd.slice 3 (Kd.int .i64)) _ 24 ?hg (N := 9) ?hd (xs := ([[]] : List (List Int))) (inner := [.slice none 0 0]) (ok := fun _ => True) (okp := fun _ => True) ?hr ?hp (fun _ hk => hk) trivial (Below.refl _ _) (Nat.le_refl _) (by simp) ?_; (case hd => rfl); (case hg => rfl); (case hr => first | (go_simp; done) | (go_simp; rfl)); (case hp => exact (Reps.one (show Kd.M (Kd.slice 3 (Kd.int .i64)) _ _ _ [] [.slice none 0 0] from ⟨_, rfl, Kd.R_nil _ _ _ _ _⟩) (Reps.none _ _))); intro v556 w3 ho4 hb hg_ hnew_; clear hg_ hnew_; (first | rw [← Ny555.out] at ho4 | (simp only [Int.reduceToNat] at ho4; rw [← Ny555.out] at ho4)); have HO557 := a_ (Kd.S_lower ho4 (below_size (Bl_ HB))); replace HB := Bs_ HB hb; clear hb ho4));go_loopg [5, 6] k (fun kq v5 v6 w' => ∃ (x5_1 : List (List Int)) (x6_1 : Int), v6 = .int .i64 x6_1 ∧ Aside0 (spec_lvAll.l0 kq a0 x5_1 x6_1 = some r) ∧ Aside0 (kq ≤ k) ∧ Aside0 (Kd.S (Kd.slice 3 (Kd.int .i64)) 24 w' w.heap.size (fun _ => True) v5 x5_1) ∧ Aside0 (Below w.heap.size w w'))
 case atStart => exact ⟨(y555), (a1), rs_, H', ⟨Nat.le_refl _⟩, ⟨Sl_ HO557.out⟩, ⟨Bl_ HB⟩⟩
 case round =>
  clear H';obtain ⟨x5_1, x6_1, rfl, HA, HK1, HO_5, HB⟩ := hrel
  cases gk with
  | zero => exact absurd HA.out (by simp [spec_lvAll.l0])
  | succ k1 =>
   have H := HA.out;clear HA;simp only [spec_lvAll.l0] at H;rcases ib_ H with ⟨c5, H⟩ | ⟨c5, H⟩
   ·have c5b0 := decide_eq_false c5;clear c5;obtain rfl := s1_ H;go_wp2;go_ret;exact ⟨_, re_, Sl_ HO_5.out, Bl_ HB⟩
   have c5b0 := decide_eq_true c5;clear c5;obtain ⟨t558, A6, H⟩ := ob_ H;(try dsimp only at H);have H' := a_ H;clear H;go_wp2_with (first | ((with_reducible refine gc_ 55 ?_);refine gx_ (some 20) Tryz.func55 (ih k1 (by have := HK1.out; omega) a0 (wrap64 (x6_1 + 2)) t558 _ A6.out) rfl ?_;rintro v559 w7 ⟨ho0, hb⟩; have HO560 := a_ (Kd.S_lower (Kd.S_new' ho0 (Kd.S_lt (Sl_ HO_5.out))) (below_size (Bl_ HB))); replace HO_5 := a_ (Kd.S_elder' (Sl_ HO_5.out) (Kd.S_base ho0) hb); replace HB := Bs_ HB hb; (try clear hb); (try clear ho0); obtain ⟨Ao8, co8, eo8⟩ := Kd.S_slice HO560.out; subst eo8));go_loopg [5, 22] k1 (fun kq v5 v22 w' => ∃ (x5_2 : List (List Int)) (x22_2 : Int), v22 = .int .i64 x22_2 ∧ Aside0 (spec_lvAll.l1 kq a0 x5_2 x6_1 t558 (t558.length : Int) x22_2 = some r) ∧ Aside0 (kq ≤ k1) ∧ Aside0 (Kd.S (Kd.slice 3 (Kd.int .i64)) 24 w' w.heap.size (fun k_ => some k_ ≠ ((.slice Ao8 t558.length co8) : Value).ownBlock) v5 x5_2) ∧ Aside0 (Kd.S (Kd.slice 3 (Kd.int .i64)) 24 w' w.heap.size (fun k_ => some k_ ≠ (v5 : Value).ownBlock) (.slice Ao8 t558.length co8) t558) ∧ Aside0 (Below w.heap.size w w'))
   case atStart => exact ⟨(x5_1), (0), rs_, H', ⟨Nat.le_refl _⟩, ⟨Sl_ (Kd.S_mono HO_5.out (fun _ hk => hk.2))⟩, ⟨Sl_ (Kd.S_mono HO560.out (fun _ hk => hk.2))⟩, ⟨Bl_ HB⟩⟩
   case round =>
    clear H';(try clear c5b0);obtain ⟨x5_2, x22_2, rfl, HA, HK2, HO_5, HO_20, HB⟩ := hrel
    cases gk with
    | zero => exact absurd HA.out (by simp [spec_lvAll.l1])
    | succ k2 =>
     have H := HA.out;clear HA;simp only [spec_lvAll.l1] at H;rcases ib_ H with ⟨c9, H⟩ | ⟨c9, H⟩
     ·have c9b0 := decide_eq_false c9;clear c9;have H' := a_ H;clear H;go_wp2;go_roundg k2
      case measure => have := HK1.out; have := HK2.out; omega
      case rel => exact ⟨(x5_2), (wrap64 (x6_1 + 1)), rs_, H', ⟨by have := HK1.out; have := HK2.out; omega⟩, ⟨Sl_ (Kd.S_mono HO_5.out (fun _ hk => trivial))⟩, ⟨Bl_ HB⟩⟩
     have c9b0 := decide_eq_true c9;clear c9;obtain ⟨c10b0, H⟩ := ic_ H;obtain ⟨c11b0, H⟩ := ic_ H;(first | obtain ⟨y562, Ny562, H⟩ := ya_ (x := (([x6_1] : List Int))) H | (generalize hy_ : (([x6_1] : List Int)) = y562 at H;have Ny562 := a_ hy_.symm;clear hy_));obtain ⟨LMc12, H⟩ := ia_ H;generalize hy_ : (y562 ++ (rd_L2 t558 x22_2)) = y565 at H;have Ny565 := a_ hy_.symm;clear hy_;obtain ⟨LMc13, H⟩ := ia_ H;generalize hy_ : (x5_2 ++ [y565]) = y568 at H;have Ny568 := a_ hy_.symm;clear hy_;have H' := a_ H;clear H;have p561 : 0 ≤ (x22_2 : Int) := od_;have q561 : x22_2 < (t558.length : Int) := od_;obtain ⟨ad561, A561_0, c561_0, e561, hx561_0, hl561_0, hi561_0⟩ := at_L2 (Kd.S_reads' HO_20.out).2.2 x22_2 p561 q561
     cases e561
     obtain ⟨ce561, hce561, hMe561, hcc561⟩ := Kd.S_get HO_20.out [] x22_2 p561 (by first | exact q561 | exact od_ | (have e_ := (Kd.S_reads' HO_20.out).1; omega));obtain ⟨ve561_0, rfl, ge561_0⟩ := hMe561;have hv561_0 := hcc561 0 _ rfl;rw [Nat.add_zero, show ((Kd.slice 3 (Kd.int .i64))).sz = 1 from rfl, Nat.mul_one] at hv561_0;replace hv561_0 := Option.some.inj (hv561_0.symm.trans hx561_0);rw [hv561_0] at ge561_0;have HL561_0 := a_ (show Kd.R (Kd.int .i64) 3 _ _ _ _ (rd_L2 t558 x22_2) from ge561_0);clear hv561_0 ge561_0;clear hcc561 hce561;have HR561_0 := a_ hi561_0;have HC561_0 := a_ hl561_0;clear hi561_0 hl561_0;replace p561 := eq_true p561;replace q561 := eq_true q561
     go_wp2_with (first | ((with_reducible refine gate_dst (N := 28) rfl ?_); refine Kd.R_lit (Kd.int .i64) _ 3 ?hg (N := 28) ?hd (xs := ([x6_1] : List Int)) (inner := [.int .i64 x6_1]) (ok := fun _ => True) (okp := fun _ => True) ?hr ?hp (fun _ hk => hk) trivial (Below.refl _ _) (Nat.le_refl _) (by simp) ?_; (case hd => rfl); (case hg => rfl); (case hr => first | (go_simp; done) | (go_simp; rfl)); (case hp => exact (Reps.one (show Kd.M (Kd.int .i64) _ _ _ x6_1 [.int .i64 x6_1] from rfl) (Reps.none _ _))); intro v563 w14 ho15 hb hg_ hnew_; clear hg_ hnew_; (first | rw [← Ny562.out] at ho15 | (simp only [Int.reduceToNat] at ho15; rw [← Ny562.out] at ho15)); replace HO_5 := a_ (Kd.S_elder' (Sl_ HO_5.out) (Kd.R_base ho15) hb); replace HO_20 := a_ (Kd.S_elder' (Sl_ HO_20.out) (Kd.R_base ho15) hb); have HO564 := a_ (Kd.R_lower (Kd.R_new' ho15 (Kd.R_lt (Rl_ HL561_0.out))) (below_size (Bl_ HB))); replace HL561_0 := a_ (Kd.R_elder' (Rl_ HL561_0.out) (Kd.R_base ho15) hb); replace HR561_0 := a_ (Kd.C_below (by repeat (first | (with_reducible exact HR561_0.out) | (with_reducible refine Kd.C_alloc ?_ _) | (with_reducible refine Kd.C_drewN ?_ _) | (with_reducible refine Kd.C_drew ?_) | exact HR561_0.out)) hb); replace HB := Bs_ HB hb; clear hb ho15) | ((with_reducible refine gate_builtin (b := .append) (xs := #[.tmp 28, .tmp 29]) rfl ?_); at_builtin; refine Kd.R_append_rows (Kd.int .i64) (w0 := w) w.heap.size rfl (.tmp 28) (.tmp 29) 24 3 (.int .i64 0) 8 rfl Tryz.underlying24 info3 rfl (by decide) (by omega) v563 y562 (rd_L2 t558 x22_2) _ _ _ (fun k_ => some k_ ≠ (.slice A561_0 (rd_L2 t558 x22_2).length c561_0 : Value).ownBlock) (fun _ => False) rfl rfl ?aO ?aR (fun _ _ h => h) (fun _ h => h.elim) ?aF ?aB ?aS ?aL ?_; (case aR => repeat (first | exact (by repeat (first | (with_reducible exact HR561_0.out) | (with_reducible refine Kd.C_alloc ?_ _) | (with_reducible refine Kd.C_drewN ?_ _) | (with_reducible refine Kd.C_drew ?_) | exact HR561_0.out)) | (with_reducible refine Kd.C_alloc ?_ _) | (with_reducible refine Kd.C_drewN ?_ _) | (with_reducible refine Kd.C_drew ?_))); (case aB => exact (Bl_ HB)); (case aF => exact (fun k_ hk => Kd.fresh' (Kd.R_lt (Rl_ HL561_0.out)) k_ hk)); (case aO => exact (Rl_ (Kd.R_mono HO564.out (fun _ hk => hk.2)))); (case aS => exact (below_size (Bl_ HB))); (case aL => have := LMc12.out; omega); intro v566 w16 ho hb hg hat; rw [← Ny565.out] at ho; replace HO_5 := a_ (Kd.S_after (ok := (fun k_ => some k_ ≠ (.slice (some ad561) t558.length co8 : Value).ownBlock)) (Sl_ HO_5.out) hg hat); replace HO_20 := a_ (Kd.S_after (ok := (fun k_ => some k_ ≠ (u5 : Value).ownBlock)) (Sl_ HO_20.out) hg hat); replace HL561_0 := a_ (Kd.R_after (ok := (fun k_ => some k_ ≠ (u5 : Value).ownBlock ∧ some k_ ≠ (.slice (some ad561) t558.length co8 : Value).ownBlock)) (Rl_ HL561_0.out) hg hat); replace HB := a_ (hb); have HO567 := a_ (ho); clear HO564; clear ho hb hg hat; obtain ⟨Ao18, co18, eo18⟩ := Kd.R_slice HO567.out; subst eo18) | ((with_reducible refine gate_builtin (b := .append) (xs := #[.tmp 26, .tmp 31]) rfl ?_); at_builtin; refine Kd.S_append (Kd.slice 3 (Kd.int .i64)) (w0 := w) w.heap.size rfl (.tmp 26) (.tmp 31) 28 24 (.slice none 0 0) 24 rfl Tryz.underlying28 info24 rfl (by decide) (by omega) u5 x5_2 y565 [.slice Ao18 y565.length co18] (fun k_ => some k_ ≠ (.slice (some ad561) t558.length co8 : Value).ownBlock) (fun k_ => some k_ = (.slice Ao18 y565.length co18 : Value).ownBlock) rfl rfl ?aP (fun k_ hk_ => ((Kd.R_mono (ok' := fun k_ => ((fun k_ => some k_ ≠ (.slice (some ad561) t558.length co8 : Value).ownBlock)) k_ ∧ some k_ ≠ (u5 : Value).ownBlock) (Kd.R_apart' (Kd.R_apart' (HO567.out) (Kd.S_typed HO_20.out) (by decide)) (Kd.S_typed HO_5.out) (by decide)) (fun k_ hk => ⟨hk.1.2, hk.2⟩))).1 k_ hk_.symm) ?aF ?aO ?aB ?aS ?aL ?_; (case aP => exact Kd.M_row (Kd.R_mono (Kd.R_tight rfl (Kd.R_mono (ok' := fun k_ => ((fun k_ => some k_ ≠ (.slice (some ad561) t558.length co8 : Value).ownBlock)) k_ ∧ some k_ ≠ (u5 : Value).ownBlock) (Kd.R_apart' (Kd.R_apart' (HO567.out) (Kd.S_typed HO_20.out) (by decide)) (Kd.S_typed HO_5.out) (by decide)) (fun k_ hk => ⟨hk.1.2, hk.2⟩))) (fun _ h_ => h_))); (case aB => exact (Bl_ HB)); (case aF => exact (fun k_ hk => Kd.fresh' (Kd.S_lt (Sl_ HO_20.out)) k_ hk)); (case aO => exact (Sl_ (Kd.S_mono HO_5.out (fun k_ hk => ⟨hk.1, fun e_ => hk.2 e_⟩)))); (case aS => exact (below_size (Bl_ HB))); (case aL => have := LMc13.out; omega); intro v569 w17 ho hb hg hat; rw [← Ny568.out] at ho; replace HO_20 := a_ (Kd.S_after (ok := (fun k_ => some k_ ≠ (.slice Ao18 y565.length co18 : Value).ownBlock)) (Sl_ (Kd.S_mono HO_20.out (fun _ hk => ⟨hk.2, hk.1⟩))) hg hat); replace HL561_0 := a_ (Kd.R_after (ok := (fun k_ => some k_ ≠ (.slice (some ad561) t558.length co8 : Value).ownBlock ∧ some k_ ≠ (.slice Ao18 y565.length co18 : Value).ownBlock)) (Rl_ (Kd.R_mono HL561_0.out (fun _ hk => ⟨⟨hk.1.2, hk.2⟩, hk.1.1⟩))) hg hat); replace HB := a_ (hb); have HO570 := a_ (ho); clear HO_5 HO567; clear ho hb hg hat))
     go_roundg k2
     case measure => have := HK1.out; have := HK2.out; omega
     case rel => exact ⟨(y568), (wrap64 (x22_2 + 1)), rs_, H', ⟨by have := HK1.out; have := HK2.out; omega⟩, ⟨Sl_ HO570.out⟩, ⟨Sl_ (Kd.S_mono HO_20.out (fun _ hk => hk.2))⟩, ⟨Bl_ HB⟩⟩

/-! ### spec_alSwap: function 86 -/
def spec_alSwap.f (l0 : List Int) (a1 : Int) : Option (List Int) := (spec_l1Own.f l0).bind fun t571 => (if 0 ≤ (wrap64 (a1 + 1)) then (if (wrap64 (a1 + 1)) < (l0.length : Int) then (if 0 ≤ a1 then (if a1 < (t571.length : Int) then (if a1 < (l0.length : Int) then (if (wrap64 (a1 + 1)) < (t571.length : Int) then (some ((t571.set (a1 : Int).toNat (rd l0 (wrap64 (a1 + 1)))).set ((wrap64 (a1 + 1)) : Int).toNat (rd l0 a1))) else (none)) else (none)) else (none)) else (none)) else (none)) else (none))
theorem spec_alSwap.calls (A0 : Option Addr) (c0 : Nat) (l0 : List Int) (a1 : Int) (r : List Int) (w : World) (hr0 : Kd.C (Kd.int .i64) w A0 l0.length l0) (hc0 : l0.length ≤ c0) (h : spec_alSwap.f l0 a1 = some r) :
 Calls Tryz.prog 86 #[.slice A0 l0.length c0, .int .i64 a1] w fun e w' => ∃ v0_ : Value, e = .returned (v0_) ∧ Kd.R (Kd.int .i64) 3 w' w.heap.size (fun _ => True) v0_ r ∧ Below w.heap.size w w' := by
 have HR0 := a_ hr0;have HC0 := a_ hc0;clear hr0 hc0;have HB := a_ (Below.refl w.heap.size w);have H := h;unfold spec_alSwap.f at H;clear h;obtain ⟨t571, A3, H⟩ := ob_ H;(try dsimp only at H);obtain ⟨ji4, hji4⟩ : ∃ j_ : Int, (wrap64 (a1 + 1)) = j_ := ⟨_, rfl⟩;(first | rw [hji4] at H | simp only [hji4] at H)
 (try rw [hji4] at A3);have hji4w : (IntKind.i64.wrap (a1 + 1)) = ji4 := (i64_w _).trans hji4;obtain ⟨c5b0, H⟩ := ic_ H;obtain ⟨c6b0, H⟩ := ic_ H;obtain ⟨c7b0, H⟩ := ic_ H;obtain ⟨c8b0, H⟩ := ic_ H;generalize hy_ : (t571.set (a1 : Int).toNat (rd l0 (ji4))) = y575 at H;have Ny575 := a_ hy_.symm;clear hy_;obtain ⟨c10b0, H⟩ := ic_ H;obtain ⟨c11b0, H⟩ := ic_ H;generalize hy_ : (y575.set ((ji4) : Int).toNat (rd l0 a1)) = y577 at H;have Ny577 := a_ hy_.symm;clear hy_;obtain rfl := s1_ H;go_enter Tryz.func86, Tryz.ntmps86
 go_wp2_with (first | ((with_reducible refine gate_callee (f := 90) rfl ?_); refine gm_ (some 7) Tryz.func90 #[.slice A0 l0.length c0] rfl ?_; (with_reducible refine (spec_l1Own.calls _ _ l0 t571 _ ?side1 ?side2 A3.out).mono ?_); (case side1 => repeat (first | exact HR0.out | (with_reducible refine Kd.C_alloc ?_ _) | (with_reducible refine Kd.C_drewN ?_ _) | (with_reducible refine Kd.C_drew ?_))); (case side2 => exact HC0.out); rintro e w13 ⟨v572, rfl, ho0, hb⟩; refine ⟨_, rfl, ?_⟩; have HO573 := a_ (Kd.R_lower ho0 (below_size (Bl_ HB))); replace HB := Bs_ HB hb; (try clear hb); (try clear ho0); obtain ⟨ad574, e574, hx574_0, p574, q574⟩ := ah_ HR0 HB (ji4); cases e574; have p9 : 0 ≤ (a1 : Int) := od_; have q9 : (a1 : Int) < ((t571.length : Int) : Int) := od_; obtain ⟨go9, co9, eo9, gb9, gl9, cl9, HG9⟩ := Kd.R_form HO573.out (by omega); (first | cases eo9 | (injection eo9 with ea_ en_ ec_; (first | subst ea_ | (injection ea_ with ea_; subst ea_)); subst ec_; clear en_)); have GB9 := a_ gb9; have GG9 := a_ HG9; clear gb9 gl9 HG9; obtain ⟨hx9_0, hf9_0⟩ := Kd.R_celln 0 HO573.out (a1 : Int) p9 q9; replace p9 := eq_true p9; replace q9 := eq_true q9; obtain ⟨hy14_, hz14_⟩ := Kd.R_celln 0 HO573.out (a1 : Int) (od_) (od_); have HP14 := Kd.R_putg HO573.out (a1 : Int) (rd l0 (ji4))) | ((with_reducible refine gate_store (t := 3) (p := 15) rfl ?_); refine store_event (t := 3) (p := 15) (v := ?vo_w15) (w1 := (w13.setCell ⟨go9, (a1 : Int).toNat, none⟩ (.int .i64 (rd l0 (ji4))))) ?hg ?ho ?hn ?hr ?_; (case ho => rfl); (case hg => rfl); (case hn => rfl); (case hr => first | (go_simp; done) | (go_simp; rfl)); intro w15 hw; have hg : w13.grownBy w15 (some go9) := (by rw [hw]; exact HP14.2); have hp_ : Kd.R (Kd.int .i64) 3 w15 w.heap.size (fun _ => True) (.slice (some ⟨go9, 0, none⟩) t571.length co9) y575 := (by rw [hw, Ny575.out]; exact HP14.1); clear HP14; replace HO573 := a_ (hp_); replace HB := a_ ((by rw [hw]; exact below_set (HB.out) GB9.out : Below w.heap.size w w15)); clear hg hw hp_; obtain ⟨ad576, e576, hx576_0, p576, q576⟩ := ah_ HR0 HB a1; obtain rfl : ad574 = ad576 := (by injection e576); have p12 : 0 ≤ ((ji4) : Int) := od_; have q12 : ((ji4) : Int) < ((t571.length : Int) : Int) := od_; obtain ⟨hx12_0, hf12_0⟩ := Kd.R_celln 0 HO573.out ((ji4) : Int) p12 q12; replace p12 := eq_true p12; replace q12 := eq_true q12; obtain ⟨hy16_, hz16_⟩ := Kd.R_celln 0 HO573.out ((ji4) : Int) (od_) (od_); have HP16 := Kd.R_putg HO573.out ((ji4) : Int) (rd l0 a1)) | ((with_reducible refine gate_store (t := 3) (p := 23) rfl ?_); refine store_event (t := 3) (p := 23) (v := ?vo_w17) (w1 := (w15.setCell ⟨go9, ((ji4) : Int).toNat, none⟩ (.int .i64 (rd l0 a1)))) ?hg ?ho ?hn ?hr ?_; (case ho => rfl); (case hg => rfl); (case hn => rfl); (case hr => first | (go_simp; done) | (go_simp; rfl)); intro w17 hw; have hg : w15.grownBy w17 (some go9) := (by rw [hw]; exact HP16.2); have hp_ : Kd.R (Kd.int .i64) 3 w17 w.heap.size (fun _ => True) (.slice (some ⟨go9, 0, none⟩) t571.length co9) y577 := (by rw [hw, Ny577.out]; exact HP16.1); clear HP16; replace HO573 := a_ (hp_); replace HB := a_ ((by rw [hw]; exact below_set (HB.out) GB9.out : Below w.heap.size w w17)); clear hg hw hp_))
 go_ret;exact ⟨_, by first | rfl | (simp [errW_none, errW_some] <;> rfl) | (simp only [← hji4]; first | rfl | (simp [errW_none, errW_some] <;> rfl)) | (simp [*, errW_none, errW_some] <;> rfl), Rl_ HO573.out, Bl_ HB⟩

/-! ### spec_lvTop: function 56 -/
def spec_lvTop.l0 : Nat → List Int → List Int → Int → Int → Option (List Int)
 | 0, _, _, _, _ => none
 | k + 1, x0, x7, x8, x9 => if x9 < x8 then (if 0 ≤ x9 then (if x9 < (x7.length : Int) then ((spec_alSwap.f x0 (rd x7 x9)).bind fun t579 => (spec_lvTop.l0 k t579 x7 x8 (wrap64 (x9 + 1)))) else (none)) else (none)) else (some x0)
def spec_lvTop.f (k : Nat) (l0 : List Int) (l1 : List Int) : Option (List Int) := spec_lvTop.l0 k l0 l1 (l1.length : Int) 0
theorem spec_lvTop.mono_l : ∀ k, (∀ y0 y1 y2 y3, LeO (spec_lvTop.l0 k y0 y1 y2 y3) (spec_lvTop.l0 (k + 1) y0 y1 y2 y3))
 | 0 => fun _ _ _ _ r h => by simp [spec_lvTop.l0] at h
 | k + 1 => by
  have ih0 := spec_lvTop.mono_l k
  ·intro y0 y1 y2 y3;unfold spec_lvTop.l0;exact mo_
theorem spec_lvTop.mono : ∀ a0 a1 k, LeO (spec_lvTop.f k a0 a1) (spec_lvTop.f (k + 1) a0 a1) := by
 intro a0 a1 k;have ih0 := spec_lvTop.mono_l k;unfold spec_lvTop.f;exact mo_
theorem spec_lvTop.calls (k : Nat) (P0_ : Nat → Prop) (A0 : Option Addr) (c0 : Nat) (l0 : List Int) (A1 : Option Addr) (c1 : Nat) (l1 : List Int) (r : List Int) (w : World) (hs0 : Kd.V (Kd.int .i64) 3 w w.heap.size (fun k_ => P0_ k_) (.slice A0 l0.length c0) l0) (hr1 : Kd.C (Kd.int .i64) w A1 l1.length l1) (hc1 : l1.length ≤ c1) (h : spec_lvTop.f k l0 l1 = some r) :
 Calls Tryz.prog 56 #[.slice A0 l0.length c0, .slice A1 l1.length c1] w fun e w' => ∃ v0_ : Value, e = .returned (v0_) ∧ Kd.V (Kd.int .i64) 3 w' w.heap.size (fun k_ => (P0_ k_ ∨ w.heap.size ≤ k_)) v0_ r ∧ Below w.heap.size w w' := by
 have HO0 := a_ (show Kd.V (Kd.int .i64) 3 w w.heap.size (fun k_ => (P0_ k_ ∨ w.heap.size ≤ k_)) (.slice A0 l0.length c0) l0 from Kd.V_mono hs0 (fun k_ hk => .inl hk));have HR1 := a_ hr1;have HC1 := a_ hc1;clear hr1 hc1;have HB := a_ (Below.refl w.heap.size w);have H := h;unfold spec_lvTop.f at H;clear h;have H' := a_ H;clear H;go_enter Tryz.func56, Tryz.ntmps56;go_wp2;go_loopg [0, 9] k (fun kq v0 v9 w' => ∃ (x0_1 : List Int) (x9_1 : Int), v9 = .int .i64 x9_1 ∧ Aside0 (spec_lvTop.l0 kq x0_1 l1 (l1.length : Int) x9_1 = some r) ∧ Aside0 (kq ≤ k) ∧ Aside0 (Kd.V (Kd.int .i64) 3 w' w.heap.size (fun k_ => (P0_ k_ ∨ w.heap.size ≤ k_)) v0 x0_1) ∧ Aside0 (Below w.heap.size w w'))
 case atStart => exact ⟨(l0), (0), rs_, H', ⟨Nat.le_refl _⟩, ⟨Vl_ HO0.out⟩, ⟨Bl_ HB⟩⟩
 case round =>
  clear H';obtain ⟨x0_1, x9_1, rfl, HA, HK1, HO_0, HB⟩ := hrel
  cases gk with
  | zero => exact absurd HA.out (by simp [spec_lvTop.l0])
  | succ k1 =>
   have H := HA.out;clear HA;simp only [spec_lvTop.l0] at H;rcases ib_ H with ⟨c3, H⟩ | ⟨c3, H⟩
   ·have c3b0 := decide_eq_false c3;clear c3;obtain rfl := s1_ H;go_wp2;go_ret;exact ⟨_, re_, Vl_ HO_0.out, Bl_ HB⟩
   have c3b0 := decide_eq_true c3;clear c3;obtain ⟨c4b0, H⟩ := ic_ H;obtain ⟨c5b0, H⟩ := ic_ H;obtain ⟨t579, A6, H⟩ := ob_ H;(try dsimp only at H);have H' := a_ H;clear H;obtain ⟨ad578, e578, hx578_0, p578, q578⟩ := ah_ HR1 HB x9_1
   cases e578;obtain ⟨Ao7, co7, eo7⟩ := Kd.V_slice HO_0.out;subst eo7;go_wp2_with (first | ((with_reducible refine gate_callee (f := 86) rfl ?_); refine gm_ (some 15) Tryz.func86 #[.slice Ao7 x0_1.length co7, .int .i64 (rd l1 x9_1)] rfl ?_; (with_reducible refine (spec_alSwap.calls _ _ x0_1 (rd l1 x9_1) t579 _ ?side1 ?side2 A6.out).mono ?_); (case side1 => repeat (first | exact (Kd.V_reads' HO_0.out).2.2 | (with_reducible refine Kd.C_alloc ?_ _) | (with_reducible refine Kd.C_drewN ?_ _) | (with_reducible refine Kd.C_drew ?_))); (case side2 => exact (Kd.V_reads' HO_0.out).2.1); rintro e w8 ⟨v580, rfl, ho0, hb⟩; refine ⟨_, rfl, ?_⟩; replace HO_0 := a_ (Kd.V_elder' (Vl_ HO_0.out) (Kd.R_base ho0) hb); have HO581 := a_ (Kd.R_lower (Kd.R_newM (M := fun k_ => (w.heap.size ≤ k_)) ho0 (below_size (Bl_ HB)) (fun k_ h_ => h_)) (below_size (Bl_ HB))); replace HB := Bs_ HB hb; (try clear hb); (try clear ho0)));go_roundg k1
   case measure => have := HK1.out; omega
   case rel => exact ⟨(t579), (wrap64 (x9_1 + 1)), rs_, H', ⟨by have := HK1.out; omega⟩, ⟨Kd.V_mono (Kd.R_V (Rl_ (Kd.R_mono HO581.out (fun _ hk => hk.1)))) (fun k_ hk => by first | exact ⟨(.inr (hk.1)), hk.2⟩ | exact (.inr (hk)))⟩, ⟨Bl_ HB⟩⟩

/-! ### spec_alOrders: function 85 -/
mutual
def spec_alOrders.l0 : Nat → Int → List (List Int) → Option ((List (List Int)))
 | 0, _, _ => none
 | k + 1, x0, x3 => if 0 < (x3.length : Int) then (if ((rd_L2 x3 0).length : Int) < x0 then (spec_alOrders.l1 k x0 ([] : List (List Int)) x3 (x3.length : Int) 0) else (some x3)) else (none)
def spec_alOrders.l1 : Nat → Int → List (List Int) → List (List Int) → Int → Int → Option ((List (List Int)))
 | 0, _, _, _, _, _ => none
 | k + 1, x0, x4, x15, x16, x17 => if x17 < x16 then (if 0 ≤ x17 then (if x17 < (x15.length : Int) then (spec_alOrders.l2 k x0 x4 (rd_L2 x15 x17) 0 x15 x16 x17) else (none)) else (none)) else (spec_alOrders.l0 k x0 x4)
def spec_alOrders.l2 : Nat → Int → List (List Int) → List Int → Int → List (List Int) → Int → Int → Option ((List (List Int)))
 | 0, _, _, _, _, _, _, _ => none
 | k + 1, x0, x4, x6, x7, x15, x16, x17 => if x7 < x0 then ((spec_l1Has.f k x6 x7).bind fun t587 => (if t587 = true then (spec_alOrders.l2 k x0 x4 x6 (wrap64 (x7 + 1)) x15 x16 x17) else ((spec_l1Own.f x6).bind fun t588 => (if t588.length < 17592186044416 then (if x4.length < 5864062014805 then (spec_alOrders.l2 k x0 (x4 ++ [(t588 ++ [x7])]) x6 (wrap64 (x7 + 1)) x15 x16 x17) else (none)) else (none))))) else (spec_alOrders.l1 k x0 x4 x15 x16 (wrap64 (x17 + 1)))
end
def spec_alOrders.f (k : Nat) (a0 : Int) : Option ((List (List Int))) := spec_alOrders.l0 k a0 (([[]] : List (List Int)))
theorem spec_alOrders.mono_l : ∀ k, (∀ y0 y1, LeO (spec_alOrders.l0 k y0 y1) (spec_alOrders.l0 (k + 1) y0 y1)) ∧ (∀ y0 y1 y2 y3 y4, LeO (spec_alOrders.l1 k y0 y1 y2 y3 y4) (spec_alOrders.l1 (k + 1) y0 y1 y2 y3 y4)) ∧ (∀ y0 y1 y2 y3 y4 y5 y6, LeO (spec_alOrders.l2 k y0 y1 y2 y3 y4 y5 y6) (spec_alOrders.l2 (k + 1) y0 y1 y2 y3 y4 y5 y6))
 | 0 => ⟨fun _ _ r h => by simp [spec_alOrders.l0] at h, fun _ _ _ _ _ r h => by simp [spec_alOrders.l1] at h, fun _ _ _ _ _ _ _ r h => by simp [spec_alOrders.l2] at h⟩
 | k + 1 => by
  obtain ⟨ih0, ih1, ih2⟩ := spec_alOrders.mono_l k;refine ⟨?_, ?_, ?_⟩
  ·intro y0 y1;unfold spec_alOrders.l0;exact mo_
  ·intro y0 y1 y2 y3 y4;unfold spec_alOrders.l1;exact mo_
  ·intro y0 y1 y2 y3 y4 y5 y6;unfold spec_alOrders.l2;have m1 := @spec_l1Has.mono;exact mo_
theorem spec_alOrders.mono : ∀ a0 k, LeO (spec_alOrders.f k a0) (spec_alOrders.f (k + 1) a0) := by
 intro a0 k;obtain ⟨ih0, ih1, ih2⟩ := spec_alOrders.mono_l k;unfold spec_alOrders.f;exact mo_
theorem spec_alOrders.calls (k : Nat) (a0 : Int) (r : List (List Int)) (w : World) (h : spec_alOrders.f k a0 = some r) :
 Calls Tryz.prog 85 #[.int .i64 a0] w fun e w' => ∃ v0_ : Value, e = .returned (v0_) ∧ Kd.S (Kd.slice 3 (Kd.int .i64)) 24 w' w.heap.size (fun _ => True) v0_ r ∧ Below w.heap.size w w' := by
 have HB := a_ (Below.refl w.heap.size w);have H := h;unfold spec_alOrders.f at H;clear h;generalize hy_ : (([[]] : List (List Int))) = y582 at H;have Ny582 := a_ hy_.symm;clear hy_;have H' := a_ H;clear H;go_enter Tryz.func85, Tryz.ntmps85;go_wp2_with (first | ((with_reducible refine gate_dst (N := 8) rfl ?_); refine Kd.S_lit (Kd.slice 3 (Kd.int .i64)) _ 24 ?hg (N := 8) ?hd (xs := ([[]] : List (List Int))) (inner := [.slice none 0 0]) (ok := fun _ => True) (okp := fun _ => True) ?hr ?hp (fun _ hk => hk) trivial (Below.refl _ _) (Nat.le_refl _) (by simp) ?_; (case hd => rfl); (case hg => rfl); (case hr => first | (go_simp; done) | (go_simp; rfl)); (case hp => exact (Reps.one (show Kd.M (Kd.slice 3 (Kd.int .i64)) _ _ _ [] [.slice none 0 0] from ⟨_, rfl, Kd.R_nil _ _ _ _ _⟩) (Reps.none _ _))); intro v583 w2 ho3 hb hg_ hnew_; clear hg_ hnew_; (first | rw [← Ny582.out] at ho3 | (simp only [Int.reduceToNat] at ho3; rw [← Ny582.out] at ho3)); have HO584 := a_ (Kd.S_lower ho3 (below_size (Bl_ HB))); replace HB := Bs_ HB hb; clear hb ho3));go_loopg [3] k (fun kq v3 w' => ∃ (x3_1 : List (List Int)), Aside0 (spec_alOrders.l0 kq a0 x3_1 = some r) ∧ Aside0 (kq ≤ k) ∧ Aside0 (Kd.S (Kd.slice 3 (Kd.int .i64)) 24 w' w.heap.size (fun _ => True) v3 x3_1) ∧ Aside0 (Below w.heap.size w w'))
 case atStart => exact ⟨(y582), H', ⟨Nat.le_refl _⟩, ⟨Sl_ HO584.out⟩, ⟨Bl_ HB⟩⟩
 case round =>
  as_aux_lemma =>
  clear H';obtain ⟨x3_1, HA, HK1, HO_3, HB⟩ := hrel
  cases gk with
  | zero => exact absurd HA.out (by simp [spec_alOrders.l0])
  | succ k1 =>
   have H := HA.out;clear HA;simp only [spec_alOrders.l0] at H;obtain ⟨c4, H⟩ := in_ H;have c4b0 := decide_eq_true c4;have c4b1 : decide (0 < x3_1.length) = true := decide_eq_true (by omega);clear c4;by_cases c5 : ((rd_L2 x3_1 0).length : Int) < a0;rotate_left
   ·rw [if_neg c5] at H;have c5b0 : decide (((rd_L2 x3_1 0).length : Int) < a0) = false := decide_eq_false c5;clear c5;obtain rfl := s1_ H;obtain ⟨Ao20, co20, eo20⟩ := Kd.S_slice HO_3.out;subst eo20;have p585 : 0 ≤ (0 : Int) := (by omega);have q585 : 0 < (x3_1.length : Int) := od_;obtain ⟨ad585, A585_0, c585_0, e585, hx585_0, hl585_0, hi585_0⟩ := at_L2 (Kd.S_reads' HO_3.out).2.2 0 p585 q585
    cases e585
    obtain ⟨ce585, hce585, hMe585, hcc585⟩ := Kd.S_get HO_3.out [] 0 p585 (by first | exact q585 | exact od_ | (have e_ := (Kd.S_reads' HO_3.out).1; omega));obtain ⟨ve585_0, rfl, ge585_0⟩ := hMe585;have hv585_0 := hcc585 0 _ rfl;rw [Nat.add_zero, show ((Kd.slice 3 (Kd.int .i64))).sz = 1 from rfl, Nat.mul_one] at hv585_0;replace hv585_0 := Option.some.inj (hv585_0.symm.trans hx585_0);rw [hv585_0] at ge585_0;have HL585_0 := a_ (show Kd.R (Kd.int .i64) 3 _ _ _ _ (rd_L2 x3_1 0) from ge585_0);clear hv585_0 ge585_0;clear hcc585 hce585;have qi585 : (0 < x3_1.length) = True := eq_true (by omega);(try rw [show ((0 : Int)).toNat = 0 from rfl] at hx585_0);(try rw [Addr.add_zero'] at hx585_0);have HR585_0 := a_ hi585_0;have HC585_0 := a_ hl585_0;clear hi585_0 hl585_0;replace p585 := eq_true p585;replace q585 := eq_true q585;go_wp2;go_ret;exact ⟨_, re_, Sl_ HO_3.out, Bl_ HB⟩
   rw [if_pos c5] at H;have c5b0 : decide (((rd_L2 x3_1 0).length : Int) < a0) = true := decide_eq_true c5;clear c5;have H' := a_ H;clear H;obtain ⟨Ao6, co6, eo6⟩ := Kd.S_slice HO_3.out;subst eo6;have p585 : 0 ≤ (0 : Int) := (by omega);have q585 : 0 < (x3_1.length : Int) := od_;obtain ⟨ad585, A585_0, c585_0, e585, hx585_0, hl585_0, hi585_0⟩ := at_L2 (Kd.S_reads' HO_3.out).2.2 0 p585 q585
   cases e585
   obtain ⟨ce585, hce585, hMe585, hcc585⟩ := Kd.S_get HO_3.out [] 0 p585 (by first | exact q585 | exact od_ | (have e_ := (Kd.S_reads' HO_3.out).1; omega));obtain ⟨ve585_0, rfl, ge585_0⟩ := hMe585;have hv585_0 := hcc585 0 _ rfl;rw [Nat.add_zero, show ((Kd.slice 3 (Kd.int .i64))).sz = 1 from rfl, Nat.mul_one] at hv585_0;replace hv585_0 := Option.some.inj (hv585_0.symm.trans hx585_0);rw [hv585_0] at ge585_0;have HL585_0 := a_ (show Kd.R (Kd.int .i64) 3 _ _ _ _ (rd_L2 x3_1 0) from ge585_0);clear hv585_0 ge585_0;clear hcc585 hce585;have qi585 : (0 < x3_1.length) = True := eq_true (by omega);(try rw [show ((0 : Int)).toNat = 0 from rfl] at hx585_0);(try rw [Addr.add_zero'] at hx585_0);have HR585_0 := a_ hi585_0;have HC585_0 := a_ hl585_0;clear hi585_0 hl585_0;replace p585 := eq_true p585;replace q585 := eq_true q585;go_wp2;go_loopg [4, 17] k1 (fun kq v4 v17 w' => ∃ (x4_2 : List (List Int)) (x17_2 : Int), v17 = .int .i64 x17_2 ∧ Aside0 (spec_alOrders.l1 kq a0 x4_2 x3_1 (x3_1.length : Int) x17_2 = some r) ∧ Aside0 (kq ≤ k1) ∧ Aside0 (Kd.S (Kd.slice 3 (Kd.int .i64)) 24 w' w.heap.size (fun k_ => some k_ ≠ ((.slice (some ad585) x3_1.length co6) : Value).ownBlock) v4 x4_2) ∧ Aside0 (Kd.S (Kd.slice 3 (Kd.int .i64)) 24 w' w.heap.size (fun k_ => some k_ ≠ (v4 : Value).ownBlock) (.slice (some ad585) x3_1.length co6) x3_1) ∧ Aside0 (Below w.heap.size w w'))
   case atStart => exact ⟨(([] : List (List Int))), (0), rs_, H', ⟨Nat.le_refl _⟩, ⟨by first | exact Kd.S_nil _ _ _ _ _ | exact Kd.N_nil _ _ _ _ _ | exact Kd.V_nil _ _ _ _ _ | exact Kd.Q_nil _ _ _ _ _ | exact Kd.R_nil _ _ _ _ _⟩, ⟨Sl_ (Kd.S_mono HO_3.out (fun _ hk => (by simp [Value.ownBlock])))⟩, ⟨Bl_ HB⟩⟩
   case round =>
    as_aux_lemma =>
    clear H';(try clear c4b0);(try clear c4b1);(try clear c5b0);(try clear hx585_0);(try clear p585);(try clear q585);obtain ⟨x4_2, x17_2, rfl, HA, HK2, HO_4, HO_15, HB⟩ := hrel
    cases gk with
    | zero => exact absurd HA.out (by simp [spec_alOrders.l1])
    | succ k2 =>
     have H := HA.out;clear HA;simp only [spec_alOrders.l1] at H;rcases ib_ H with ⟨c7, H⟩ | ⟨c7, H⟩
     ·have c7b0 := decide_eq_false c7;clear c7;have H' := a_ H;clear H;go_wp2;go_roundg k2
      case measure => have := HK1.out; have := HK2.out; omega
      case rel => exact ⟨(x4_2), H', ⟨by have := HK1.out; have := HK2.out; omega⟩, ⟨Sl_ (Kd.S_mono HO_4.out (fun _ hk => trivial))⟩, ⟨Bl_ HB⟩⟩
     have c7b0 := decide_eq_true c7;clear c7;obtain ⟨c8b0, H⟩ := ic_ H;obtain ⟨c9b0, H⟩ := ic_ H;have H' := a_ H;clear H;have p586 : 0 ≤ (x17_2 : Int) := od_;have q586 : x17_2 < (x3_1.length : Int) := od_;obtain ⟨ad586, A586_0, c586_0, e586, hx586_0, hl586_0, hi586_0⟩ := at_L2 (Kd.S_reads' HO_15.out).2.2 x17_2 p586 q586;obtain rfl : ad585 = ad586 := (by injection e586);obtain ⟨ce586, hce586, hMe586, hcc586⟩ := Kd.S_get HO_15.out [] x17_2 p586 (by first | exact q586 | exact od_ | (have e_ := (Kd.S_reads' HO_15.out).1; omega));obtain ⟨ve586_0, rfl, ge586_0⟩ := hMe586;have hv586_0 := hcc586 0 _ rfl;rw [Nat.add_zero, show ((Kd.slice 3 (Kd.int .i64))).sz = 1 from rfl, Nat.mul_one] at hv586_0;replace hv586_0 := Option.some.inj (hv586_0.symm.trans hx586_0);rw [hv586_0] at ge586_0;have HL586_0 := a_ (show Kd.R (Kd.int .i64) 3 _ _ _ _ (rd_L2 x3_1 x17_2) from ge586_0);clear hv586_0 ge586_0;clear hcc586 hce586;have HR586_0 := a_ hi586_0;have HC586_0 := a_ hl586_0;clear hi586_0 hl586_0;replace p586 := eq_true p586;replace q586 := eq_true q586;go_wp2;go_loopg [4, 7] k2 (fun kq v4 v7 w' => ∃ (x4_3 : List (List Int)) (x7_3 : Int), v7 = .int .i64 x7_3 ∧ Aside0 (spec_alOrders.l2 kq a0 x4_3 (rd_L2 x3_1 x17_2) x7_3 x3_1 (x3_1.length : Int) x17_2 = some r) ∧ Aside0 (kq ≤ k2) ∧ Aside0 (Kd.S (Kd.slice 3 (Kd.int .i64)) 24 w' w.heap.size (fun k_ => some k_ ≠ ((.slice (some ad585) x3_1.length co6) : Value).ownBlock) v4 x4_3) ∧ Aside0 (Kd.S (Kd.slice 3 (Kd.int .i64)) 24 w' w.heap.size (fun k_ => some k_ ≠ (v4 : Value).ownBlock) (.slice (some ad585) x3_1.length co6) x3_1) ∧ Aside0 (Kd.R (Kd.int .i64) 3 w' w.heap.size (fun k_ => some k_ ≠ (v4 : Value).ownBlock) (.slice A586_0 (rd_L2 x3_1 x17_2).length c586_0) (rd_L2 x3_1 x17_2)) ∧ Aside0 (Below w.heap.size w w'))
     case atStart => exact ⟨(x4_2), (0), rs_, H', ⟨Nat.le_refl _⟩, ⟨Sl_ HO_4.out⟩, ⟨Sl_ HO_15.out⟩, ⟨Rl_ (Kd.R_mono HL586_0.out (fun _ hk => by first | exact hk.1 | exact hk))⟩, ⟨Bl_ HB⟩⟩
     case round =>
      clear H';(try clear c7b0);(try clear c8b0);(try clear c9b0);(try clear hx586_0);(try clear p586);(try clear q586);obtain ⟨x4_3, x7_3, rfl, HA, HK3, HO_4, HO_15, HE_, HB⟩ := hrel
      cases gk with
      | zero => exact absurd HA.out (by simp [spec_alOrders.l2])
      | succ k3 =>
       have H := HA.out;clear HA;simp only [spec_alOrders.l2] at H;rcases ib_ H with ⟨c10, H⟩ | ⟨c10, H⟩
       ·have c10b0 := decide_eq_false c10;clear c10;have H' := a_ H;clear H;go_wp2;go_roundg k3
        case measure => have := HK1.out; have := HK2.out; have := HK3.out; omega
        case rel => exact ⟨(x4_3), (wrap64 (x17_2 + 1)), rs_, H', ⟨by have := HK1.out; have := HK2.out; have := HK3.out; omega⟩, ⟨Sl_ HO_4.out⟩, ⟨Sl_ HO_15.out⟩, ⟨Bl_ HB⟩⟩
       have c10b0 := decide_eq_true c10;clear c10;obtain ⟨t587, A11, H⟩ := ob_ H;(try dsimp only at H);replace H := bd_ H;rcases H with ⟨rfl, H⟩ | ⟨rfl, H⟩
       ·have H' := a_ H;clear H;go_wp2_with (first | ((with_reducible refine gc_ 89 ?_);refine gn_ (some 28) Tryz.func89 (spec_l1Has.calls k3 _ _ (rd_L2 x3_1 x17_2) x7_3 true _ (Cl_ (Kd.R_reads' HE_.out).2.2) HC586_0.out A11.out) rfl ?_;rintro w' ⟨nd, rfl⟩));go_roundg k3
        case measure => have := HK1.out; have := HK2.out; have := HK3.out; omega
        case rel => exact ⟨(x4_3), (wrap64 (x7_3 + 1)), rs_, H', ⟨by have := HK1.out; have := HK2.out; have := HK3.out; omega⟩, ⟨Sl_ HO_4.out⟩, ⟨Sl_ HO_15.out⟩, ⟨Rl_ HE_.out⟩, ⟨Bl_ HB⟩⟩
       obtain ⟨t588, A13, H⟩ := ob_ H;(try dsimp only at H);obtain ⟨LMc14, H⟩ := ia_ H;generalize hy_ : (t588 ++ [x7_3]) = y591 at H;have Ny591 := a_ hy_.symm;clear hy_;obtain ⟨LMc15, H⟩ := ia_ H;generalize hy_ : (x4_3 ++ [y591]) = y594 at H;have Ny594 := a_ hy_.symm;clear hy_;have H' := a_ H;clear H
       go_wp2_with (first | ((with_reducible refine gc_ 89 ?_);refine gn_ (some 28) Tryz.func89 (spec_l1Has.calls k3 _ _ (rd_L2 x3_1 x17_2) x7_3 false _ (Cl_ (Kd.R_reads' HE_.out).2.2) HC586_0.out A11.out) rfl ?_;rintro w' ⟨nd, rfl⟩) | ((with_reducible refine gc_ 90 ?_);refine gx_ (some 32) Tryz.func90 (spec_l1Own.calls _ _ (rd_L2 x3_1 x17_2) t588 _ (Cl_ (Kd.R_reads' HE_.out).2.2) HC586_0.out A13.out) rfl ?_;rintro v589 w16 ⟨ho0, hb⟩; have n0_ := a_ (Kd.S_elder' (Sl_ HO_4.out) (Kd.R_base ho0) hb); have n9_ := a_ (Kd.R_elder' (Rl_ HE_.out) (Kd.R_base ho0) hb); have n1_ := a_ (Kd.S_elder' (Sl_ HO_15.out) (Kd.R_base ho0) hb); have n2_ := a_ (Kd.R_lower ho0 (below_size (Bl_ HB))); have n3_ := Bs_ HB hb; clear HO_4; clear HO_15; clear HB; have HO_4 := n0_; have HO_15 := n1_; have HO590 := n2_; have HB := n3_; clear n0_ n1_ n2_ n3_; clear HE_; have HE_ := n9_; clear n9_; (try clear hb); (try clear ho0)) | ((with_reducible refine gate_builtin (b := .append) (xs := #[.tmp 32, .tmp 34]) rfl ?_); at_builtin; refine Kd.R_append (Kd.int .i64) (w0 := w) w.heap.size rfl (.tmp 32) (.tmp 34) 24 3 (.int .i64 0) 8 rfl Tryz.underlying24 info3 rfl (by decide) (by omega) v589 t588 x7_3 [.int .i64 x7_3] (fun _ => True) (fun _ => False) rfl rfl ?aP (fun _ hk => hk.elim) ?aF ?aO ?aB ?aS ?aL ?_; (case aP => exact rfl); (case aB => exact (Bl_ HB)); (case aF => exact (fun _ _ => trivial)); (case aO => exact (Rl_ HO590.out)); (case aS => exact (below_size (Bl_ HB))); (case aL => have := LMc14.out; omega); intro v592 w17 ho hb hg hat; rw [← Ny591.out] at ho; have n0_ := a_ (Kd.S_after (ok := (fun k_ => some k_ ≠ (.slice (some ad585) x3_1.length co6 : Value).ownBlock)) (Sl_ HO_4.out) hg hat); have n9_ := a_ (Kd.R_after (ok := (fun k_ => some k_ ≠ (u4 : Value).ownBlock)) (Rl_ HE_.out) hg hat); have n1_ := a_ (Kd.S_after (ok := (fun k_ => some k_ ≠ (u4 : Value).ownBlock)) (Sl_ HO_15.out) hg hat); have n2_ := a_ (hb); have n3_ := a_ (ho); clear HO_4; clear HO_15; clear HB; clear HO590; have HO_4 := n0_; have HO_15 := n1_; have HB := n2_; have HO593 := n3_; clear n0_ n1_ n2_ n3_; clear HE_; have HE_ := n9_; clear n9_; clear ho hb hg hat; obtain ⟨Ao19, co19, eo19⟩ := Kd.R_slice HO593.out; subst eo19) | ((with_reducible refine gate_builtin (b := .append) (xs := #[.tmp 30, .tmp 36]) rfl ?_); at_builtin; refine Kd.S_append (Kd.slice 3 (Kd.int .i64)) (w0 := w) w.heap.size rfl (.tmp 30) (.tmp 36) 28 24 (.slice none 0 0) 24 rfl Tryz.underlying28 info24 rfl (by decide) (by omega) u4 x4_3 y591 [.slice Ao19 y591.length co19] (fun k_ => some k_ ≠ (.slice (some ad585) x3_1.length co6 : Value).ownBlock) (fun k_ => some k_ = (.slice Ao19 y591.length co19 : Value).ownBlock) rfl rfl ?aP (fun k_ hk_ => ((Kd.R_mono (ok' := fun k_ => ((fun k_ => some k_ ≠ (.slice (some ad585) x3_1.length co6 : Value).ownBlock)) k_ ∧ some k_ ≠ (u4 : Value).ownBlock) (Kd.R_apart' (Kd.R_apart' (HO593.out) (Kd.S_typed HO_15.out) (by decide)) (Kd.S_typed HO_4.out) (by decide)) (fun k_ hk => ⟨hk.1.2, hk.2⟩))).1 k_ hk_.symm) ?aF ?aO ?aB ?aS ?aL ?_; (case aP => exact Kd.M_row (Kd.R_mono (Kd.R_tight rfl (Kd.R_mono (ok' := fun k_ => ((fun k_ => some k_ ≠ (.slice (some ad585) x3_1.length co6 : Value).ownBlock)) k_ ∧ some k_ ≠ (u4 : Value).ownBlock) (Kd.R_apart' (Kd.R_apart' (HO593.out) (Kd.S_typed HO_15.out) (by decide)) (Kd.S_typed HO_4.out) (by decide)) (fun k_ hk => ⟨hk.1.2, hk.2⟩))) (fun _ h_ => h_))); (case aB => exact (Bl_ HB)); (case aF => exact (fun k_ hk => Kd.fresh' (Kd.S_lt (Sl_ HO_15.out)) k_ hk)); (case aO => exact (Sl_ (Kd.S_mono HO_4.out (fun k_ hk => ⟨hk.1, fun e_ => hk.2 e_⟩)))); (case aS => exact (below_size (Bl_ HB))); (case aL => have := LMc15.out; omega); intro v595 w18 ho hb hg hat; rw [← Ny594.out] at ho; have n9_ := a_ (Kd.R_after (ok := (fun k_ => some k_ ≠ (.slice Ao19 y591.length co19 : Value).ownBlock)) (Rl_ (Kd.R_mono HE_.out (fun _ hk => ⟨hk.2, hk.1⟩))) hg hat); replace HO_15 := a_ (Kd.S_after (ok := (fun k_ => some k_ ≠ (.slice Ao19 y591.length co19 : Value).ownBlock)) (Sl_ (Kd.S_mono HO_15.out (fun _ hk => ⟨hk.2, hk.1⟩))) hg hat); replace HB := a_ (hb); have HO596 := a_ (ho); clear HO_4 HO593; clear HE_; have HE_ := n9_; clear n9_; clear ho hb hg hat))
       go_roundg k3
       case measure => have := HK1.out; have := HK2.out; have := HK3.out; omega
       case rel => exact ⟨(y594), (wrap64 (x7_3 + 1)), rs_, H', ⟨by have := HK1.out; have := HK2.out; have := HK3.out; omega⟩, ⟨Sl_ HO596.out⟩, ⟨Sl_ (Kd.S_mono HO_15.out (fun _ hk => hk.2))⟩, ⟨Rl_ (Kd.R_mono HE_.out (fun _ hk => hk.2))⟩, ⟨Bl_ HB⟩⟩

end Go.Proofs.YtoomhlpanjebnaaGreat.B
