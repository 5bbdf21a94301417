/- The walks of functions of the given program and of its reference: each call of the machine returns what the plain Lean function of the same name says. Conditions: those in each statement. (Written by this session's program over the kit's print.) -/
import Derived.Test.YtakddaclgppdjaaB0
import Derived.Test.YtakddaclgppdjaaB1
import Derived.Test.YtakddaclgppdjaaB2
namespace Go.Proofs.Ytakddaclgppdjaa.B
open Go.RowKit Go.Proofs.YtakddaclgppdjaaW.PrintWords Go.Proofs.YtakddaclgppdjaaW.PrintLast Go.Proofs.YtakddaclgppdjaaW.PrintMore
attribute [local go_sem] max2_int min2_int max_two min_two max_three min_three max_four min_four   -- for this text's walks alone
set_option linter.unusedVariables false
set_option linter.unusedSimpArgs false

/-! ### spec_l1Cur_rising: function 44 -/
mutual
def spec_l1Cur_rising.l0 : Nat → Int → List Int → Int → List Int → Int → Int → Option (List Int × Int × Int)
 | 0, _, _, _, _, _, _ => none
 | k + 1, x1, x5, x6, x1000, x1001, x1002 => if x6 < x1 then (spec_l1Cur_rising.j1 k x1 x5 x6 (decide (x6 < 12)) x1000 x1001 x1002) else (spec_l1Cur_rising.j1 k x1 x5 x6 false x1000 x1001 x1002)
def spec_l1Cur_rising.j1 : Nat → Int → List Int → Int → Bool → List Int → Int → Int → Option (List Int × Int × Int)
 | 0, _, _, _, _, _, _, _ => none
 | k + 1, x1, x5, x6, x13, x1000, x1001, x1002 => if x13 = true then ((spec_l1Cur_one.f x1000 x1001 x1002 2).bind fun bt333 => (if bt333.1 = true then (if x5.length < 17592186044416 then (spec_l1Cur_rising.l0 k x1 (x5 ++ [x6]) (wrap64 (x6 + 1)) x1000 bt333.2.1 bt333.2.2) else (none)) else (spec_l1Cur_rising.l0 k x1 x5 (wrap64 (x6 + 1)) x1000 bt333.2.1 bt333.2.2))) else ((spec_l1Cur_one.f x1000 x1001 x1002 12).bind fun bt339 => (if bt339.1 = true then ((spec_l1Cur_among.f x1000 bt339.2.1 bt339.2.2 (([(-1), 0, x1, 4611686018427387904] : List Int))).bind fun bt345 => (if x5.length < 17592186044416 then (some ((x5 ++ [bt345.1]), bt345.2.1, bt345.2.2)) else (none))) else (some (x5, bt339.2.1, bt339.2.2))))
end
def spec_l1Cur_rising.f (k : Nat) (s0_0 : List Int) (s0_1 : Int) (s0_2 : Int) (a1 : Int) : Option (List Int × Int × Int) := spec_l1Cur_rising.l0 k a1 ([] : List Int) 0 s0_0 s0_1 s0_2
theorem spec_l1Cur_rising.mono_l : ∀ k, (∀ y0 y1 y2 y3 y4 y5, LeO (spec_l1Cur_rising.l0 k y0 y1 y2 y3 y4 y5) (spec_l1Cur_rising.l0 (k + 1) y0 y1 y2 y3 y4 y5)) ∧ (∀ y0 y1 y2 y3 y4 y5 y6, LeO (spec_l1Cur_rising.j1 k y0 y1 y2 y3 y4 y5 y6) (spec_l1Cur_rising.j1 (k + 1) y0 y1 y2 y3 y4 y5 y6))
 | 0 => ⟨fun _ _ _ _ _ _ r h => by simp [spec_l1Cur_rising.l0] at h, fun _ _ _ _ _ _ _ r h => by simp [spec_l1Cur_rising.j1] at h⟩
 | k + 1 => by
  obtain ⟨ih0, ih1⟩ := spec_l1Cur_rising.mono_l k
  refine ⟨?_, ?_⟩
  ·intro y0 y1 y2 y3 y4 y5
   unfold spec_l1Cur_rising.l0
   repeat' first
   | (with_reducible exact ih1 _ _ _ _ _ _ _)
   | (with_reducible exact LeO.refl _)
   | (with_reducible exact LeO.none _)
   | (with_reducible refine LeO.ite ?_ ?_)
   | (with_reducible refine LeO.bind ?_ (fun _ => ?_))
   | exact LeO.none _
   | refine LeO.ite ?_ ?_
   | refine LeO.bind ?_ (fun _ => ?_)
  ·intro y0 y1 y2 y3 y4 y5 y6
   unfold spec_l1Cur_rising.j1
   repeat' first
   | (with_reducible exact ih0 _ _ _ _ _ _)
   | (with_reducible exact LeO.refl _)
   | (with_reducible exact LeO.none _)
   | (with_reducible refine LeO.ite ?_ ?_)
   | (with_reducible refine LeO.bind ?_ (fun _ => ?_))
   | exact LeO.none _
   | refine LeO.ite ?_ ?_
   | refine LeO.bind ?_ (fun _ => ?_)
theorem spec_l1Cur_rising.mono : ∀ a0 a1 a2 a3 k, LeO (spec_l1Cur_rising.f k a0 a1 a2 a3) (spec_l1Cur_rising.f (k + 1) a0 a1 a2 a3) := by
 intro a0 a1 a2 a3 k
 obtain ⟨ih0, ih1⟩ := spec_l1Cur_rising.mono_l k
 unfold spec_l1Cur_rising.f
 repeat' first
  | (with_reducible exact ih0 _ _ _ _ _ _)
  | (with_reducible exact LeO.refl _)
  | (with_reducible exact LeO.none _)
  | (with_reducible refine LeO.ite ?_ ?_)
  | (with_reducible refine LeO.bind ?_ (fun _ => ?_))
  | exact LeO.none _
  | refine LeO.ite ?_ ?_
  | refine LeO.bind ?_ (fun _ => ?_)
set_option maxHeartbeats 8000000 in
set_option maxRecDepth 100000 in
theorem spec_l1Cur_rising.calls (k : Nat) (g : Nat) (s0_0 : List Int) (s0_1 : Int) (s0_2 : Int) (a1 : Int) (r1 : List Int) (r2 : Int) (r3 : Int) (w0 w : World) (hI : IsS63 w0 w g s0_0 s0_1 s0_2) (hB : Below w0.heap.size w0 w) (h : spec_l1Cur_rising.f k s0_0 s0_1 s0_2 a1 = some (r1, r2, r3)) :
 Calls Try.prog 44 #[.pointer (some ⟨g, 0, none⟩), .int .i64 a1] w fun e w' => ∃ v0_ : Value, e = .returned (v0_) ∧ Kd.R (Kd.int .i64) 3 w' w.heap.size (fun _ => True) v0_ r1 ∧ IsS63 w0 w' g s0_0 r2 r3 ∧ Below w0.heap.size w0 w' ∧ KeepBut w w' g none := by
 have HI0 := a_ hI
 have HK := a_ (KeepBut.refl w g none)
 have HL := a_ hB.size
 clear hI
 have HW0 := a_ hB.size
 have HB := a_ hB
 clear hB
 have H : (spec_l1Cur_rising.l0 k a1 ([] : List Int) 0 s0_0 s0_1 s0_2) = some (r1, r2, r3) := h
 clear h
 have H' := a_ H
 clear H
 go_enter Try.func44, Try.ntmps44
 go_wp2
 go_loopg [5, 6] k (fun kq v5 v6 w' => ∃ (x5_1 : List Int) (x6_1 : Int) (x1001_1 : Int) (x1002_1 : Int), v6 = .int .i64 x6_1 ∧ Aside0 (spec_l1Cur_rising.l0 kq a1 x5_1 x6_1 s0_0 x1001_1 x1002_1 = some (r1, r2, r3)) ∧ Aside0 (kq ≤ k) ∧ Aside0 (Kd.R (Kd.int .i64) 3 w' w.heap.size (fun _ => True) v5 x5_1) ∧ Aside0 (IsS63 w0 w' g s0_0 x1001_1 x1002_1) ∧ Aside0 (KeepBut w w' g none) ∧ Aside0 (Below w0.heap.size w0 w'))
 case atStart => exact ⟨(([] : List Int)), (0), (s0_1), (s0_2), rs_, H', ⟨Nat.le_refl _⟩, ⟨by first | exact Kd.R_nil _ _ _ _ _ | exact Kd.N_nil _ _ _ _ _ | exact Kd.V_nil _ _ _ _ _ | exact Kd.Q_nil _ _ _ _ _ | exact Kd.S_nil _ _ _ _ _⟩, ⟨by repeat (first | (with_reducible first | exact HI0.out | apply IsS63.alloc | apply IsS63.drewN | apply IsS63.drew | apply IsS63.set_1 | apply IsS63.set_2) | exact HI0.out)⟩, ⟨by repeat (first | (with_reducible first | exact HK.out | apply KeepBut.set_ | apply keep_drewN | apply keep_drew | apply keep_alloc) | exact HK.out)⟩, ⟨by repeat (first | (with_reducible first | exact HB.out | apply below_alloc | apply pw_below_drewN | apply below_drew1 | refine below_set ?_ (IsS63.ge HI0.out)) | exact HB.out)⟩⟩
 case round =>
  clear H'
  try clear p2
  obtain ⟨x5_1, x6_1, x1001_1, x1002_1, rfl, HA, HK1, HO_5, HI0, HK, HB⟩ := hrel
  cases gk with
  | zero => exact absurd HA.out (by simp [spec_l1Cur_rising.l0])
  | succ k1 =>
   have H := HA.out
   clear HA
   simp only [spec_l1Cur_rising.l0] at H
   have HC3 := a_ H
   clear H
   go_upto_region 3 with (fail)
   go_cut [13] (fun v13 wc => ∃ (kq : Nat) (x13_2 : Bool), v13 = .bool x13_2 ∧ Aside0 (spec_l1Cur_rising.j1 kq a1 x5_1 x6_1 x13_2 s0_0 x1001_1 x1002_1 = some (r1, r2, r3)) ∧ Aside0 (kq ≤ k1) ∧ Aside0 (Kd.R (Kd.int .i64) 3 wc w.heap.size (fun _ => True) u5 x5_1) ∧ Aside0 (IsS63 w0 wc g s0_0 x1001_1 x1002_1) ∧ Aside0 (KeepBut w wc g none) ∧ Aside0 (Below w0.heap.size w0 wc))
   case first =>
    have H := HC3.out
    clear HC3
    by_cases c4 : x6_1 < a1
    ·rw [if_pos c4] at H
     have c4b0 : decide (x6_1 < a1) = true := decide_eq_true c4
     clear c4
     (first | rw [c4b0] | (simp only [i64_w, i32_w]; rw [c4b0]) | skip)
     have H' := a_ H
     clear H
     go_wp2
     go_meet
     case rel => exact ⟨_, (decide (x6_1 < 12)), rs_, H', ⟨by have := HK1.out; first | omega | exact Nat.le_refl _⟩, ⟨Rl_ HO_5.out⟩, ⟨by repeat (first | (with_reducible first | exact HI0.out | apply IsS63.alloc | apply IsS63.drewN | apply IsS63.drew | apply IsS63.set_1 | apply IsS63.set_2) | exact HI0.out)⟩, ⟨by repeat (first | (with_reducible first | exact HK.out | apply KeepBut.set_ | apply keep_drewN | apply keep_drew | apply keep_alloc) | exact HK.out)⟩, ⟨by repeat (first | (with_reducible first | exact HB.out | apply below_alloc | apply pw_below_drewN | apply below_drew1 | refine below_set ?_ (IsS63.ge HI0.out)) | exact HB.out)⟩⟩
    rw [if_neg c4] at H
    have c4b0 : decide (x6_1 < a1) = false := decide_eq_false c4
    clear c4
    (first | rw [c4b0] | (simp only [i64_w, i32_w]; rw [c4b0]) | skip)
    have H' := a_ H
    clear H
    go_wp2
    go_meet
    case rel => exact ⟨_, (false), rs_, H', ⟨by have := HK1.out; first | omega | exact Nat.le_refl _⟩, ⟨Rl_ HO_5.out⟩, ⟨by repeat (first | (with_reducible first | exact HI0.out | apply IsS63.alloc | apply IsS63.drewN | apply IsS63.drew | apply IsS63.set_1 | apply IsS63.set_2) | exact HI0.out)⟩, ⟨by repeat (first | (with_reducible first | exact HK.out | apply KeepBut.set_ | apply keep_drewN | apply keep_drew | apply keep_alloc) | exact HK.out)⟩, ⟨by repeat (first | (with_reducible first | exact HB.out | apply below_alloc | apply pw_below_drewN | apply below_drew1 | refine below_set ?_ (IsS63.ge HI0.out)) | exact HB.out)⟩⟩
   case rest =>
    clear HC3
    try clear p2
    try clear c4
    try clear c4b0
    try clear p2
    obtain ⟨kq, x13_2, rfl, HA, HJ2, HO_5, HI0, HK, HB⟩ := hcut
    cases kq with
    | zero => exact absurd HA.out (by simp [spec_l1Cur_rising.j1])
    | succ kj2 =>
     have H := HA.out
     clear HA
     simp only [spec_l1Cur_rising.j1] at H
     by_cases c5 : x13_2 = true
     ·subst c5
      rw [if_pos rfl] at H
      obtain ⟨⟨t333, t334, t335⟩, A6, H⟩ := ob_ H
      (try dsimp only at H)
      by_cases c7 : t333 = true
      rotate_left
      ·replace c7 := Bool.eq_false_iff.mpr c7
       subst c7
       rw [if_neg (show ¬ (false = true) by decide)] at H
       have H' := a_ H
       clear H
       go_wp2_with (first | ((with_reducible refine gate_callee (f := 60) rfl ?_); refine gm_ (some 17) Try.func60 #[.pointer (some ⟨g, 0, none⟩), .int .i64 2] rfl ?_; (with_reducible refine (spec_l1Cur_one.calls g s0_0 x1001_1 x1002_1 2 false t334 t335 w0 _ ?side1 ?side2 A6.out).mono ?_); (case side1 => repeat (first | (with_reducible first | exact HI0.out | apply IsS63.alloc | apply IsS63.drewN | apply IsS63.drew | apply IsS63.set_1 | apply IsS63.set_2) | exact HI0.out)); (case side2 => repeat (first | (with_reducible first | exact HB.out | apply below_alloc | apply pw_below_drewN | apply below_drew1 | refine below_set ?_ (IsS63.ge HI0.out)) | exact HB.out)); rintro e w11 ⟨rfl, hi, hb, hk⟩; refine ⟨_, rfl, ?_⟩; replace HO_5 := a_ (Kd.R_mono (Kd.R_keep (IsS63.apart (show IsS63 w0 _ g s0_0 x1001_1 x1002_1 from by repeat (first | (with_reducible first | exact HI0.out | apply IsS63.alloc | apply IsS63.drewN | apply IsS63.drew | apply IsS63.set_1 | apply IsS63.set_2) | exact HI0.out)) (Rl_ HO_5.out) (by decide)) hk (fun _ h => h.2)) (fun _ h => h.1)); replace HK := a_ (KeepBut.trans (by repeat (first | (with_reducible first | exact HK.out | apply KeepBut.set_ | apply keep_drewN | apply keep_drew | apply keep_alloc) | exact HK.out)) hk (.inl rfl)); replace HB := a_ (hb); replace HI0 := a_ (hi); (try clear hb); (try clear hb2); (try clear hk); (try clear hi)))
       go_roundg kj2
       case measure => have := HK1.out; have := HJ2.out; omega
       case rel => exact ⟨(x5_1), (wrap64 (x6_1 + 1)), (t334), (t335), rs_, H', ⟨by have := HK1.out; have := HJ2.out; omega⟩, ⟨Rl_ HO_5.out⟩, ⟨by repeat (first | (with_reducible first | exact HI0.out | apply IsS63.alloc | apply IsS63.drewN | apply IsS63.drew | apply IsS63.set_1 | apply IsS63.set_2) | exact HI0.out)⟩, ⟨by repeat (first | (with_reducible first | exact HK.out | apply KeepBut.set_ | apply keep_drewN | apply keep_drew | apply keep_alloc) | exact HK.out)⟩, ⟨by repeat (first | (with_reducible first | exact HB.out | apply below_alloc | apply pw_below_drewN | apply below_drew1 | refine below_set ?_ (IsS63.ge HI0.out)) | exact HB.out)⟩⟩
      subst c7
      rw [if_pos rfl] at H
      by_cases c8 : x5_1.length < 17592186044416
      rotate_left
      ·rw [if_neg c8] at H
       cases H
      rw [if_pos c8] at H
      have LMc8 := a_ c8
      clear c8
      obtain ⟨y336, hy336⟩ : ∃ y_ : List Int, y_ = (x5_1 ++ [x6_1]) := ⟨_, rfl⟩
      replace H : (spec_l1Cur_rising.l0 kj2 a1 y336 (wrap64 (x6_1 + 1)) s0_0 t334 t335) = some (r1, r2, r3) := by first | (rw [hy336]; with_reducible exact H) | (have H2_ := (Option.bind_some _ _).symm.trans H; rw [hy336]; with_reducible exact H2_) | (have H2_ := (Option.bind_some _ _).symm.trans H; with_reducible exact H2_) | with_reducible exact H | (rw [hy336]; exact H) | exact H
      have Ny336 := a_ hy336
      clear hy336
      have H' := a_ H
      clear H
      go_wp2_with (first | ((with_reducible refine gate_callee (f := 60) rfl ?_); refine gm_ (some 17) Try.func60 #[.pointer (some ⟨g, 0, none⟩), .int .i64 2] rfl ?_; (with_reducible refine (spec_l1Cur_one.calls g s0_0 x1001_1 x1002_1 2 true t334 t335 w0 _ ?side1 ?side2 A6.out).mono ?_); (case side1 => repeat (first | (with_reducible first | exact HI0.out | apply IsS63.alloc | apply IsS63.drewN | apply IsS63.drew | apply IsS63.set_1 | apply IsS63.set_2) | exact HI0.out)); (case side2 => repeat (first | (with_reducible first | exact HB.out | apply below_alloc | apply pw_below_drewN | apply below_drew1 | refine below_set ?_ (IsS63.ge HI0.out)) | exact HB.out)); rintro e w9 ⟨rfl, hi, hb, hk⟩; refine ⟨_, rfl, ?_⟩; replace HO_5 := a_ (Kd.R_mono (Kd.R_keep (IsS63.apart (show IsS63 w0 _ g s0_0 x1001_1 x1002_1 from by repeat (first | (with_reducible first | exact HI0.out | apply IsS63.alloc | apply IsS63.drewN | apply IsS63.drew | apply IsS63.set_1 | apply IsS63.set_2) | exact HI0.out)) (Rl_ HO_5.out) (by decide)) hk (fun _ h => h.2)) (fun _ h => h.1)); replace HK := a_ (KeepBut.trans (by repeat (first | (with_reducible first | exact HK.out | apply KeepBut.set_ | apply keep_drewN | apply keep_drew | apply keep_alloc) | exact HK.out)) hk (.inl rfl)); replace HB := a_ (hb); replace HI0 := a_ (hi); (try clear hb); (try clear hb2); (try clear hk); (try clear hi)) | ((with_reducible refine gate_builtin (b := .append) (xs := #[.tmp 18, .tmp 20]) rfl ?_); at_builtin; refine Kd.R_append (Kd.int .i64) w.heap.size rfl (.tmp 18) (.tmp 20) 24 3 (.int .i64 0) 8 rfl Try.underlying24 info3 rfl (by decide) (by omega) u5 x5_1 x6_1 [.int .i64 x6_1] (fun _ => True) (fun _ => False) rfl rfl ?aP (fun _ hk => hk.elim) ?aF ?aO (Below.refl _ _) ?aS ?aL ?_; (case aP => exact rfl); (case aF => exact (fun _ _ => trivial)); (case aO => exact (Rl_ HO_5.out)); (case aS => exact (keep_size (w := w) (g := g) (row := none) (by repeat (first | (with_reducible first | exact HK.out | apply KeepBut.set_ | apply keep_drewN | apply keep_drew | apply keep_alloc) | exact HK.out)))); (case aL => have := LMc8.out; omega); intro v337 w10 ho hb hg hat; rw [← Ny336.out] at ho; replace HB := a_ (below_weaken (by repeat (first | (with_reducible first | exact HB.out | apply below_alloc | apply pw_below_drewN | apply below_drew1 | refine below_set ?_ (IsS63.ge HI0.out)) | exact HB.out)) HL.out hb); replace HI0 := a_ (IsS63.grown (by repeat (first | (with_reducible first | exact HI0.out | apply IsS63.alloc | apply IsS63.drewN | apply IsS63.drew | apply IsS63.set_1 | apply IsS63.set_2) | exact HI0.out)) hg (IsS63.own_ne HI0.out HO_5.out (by decide))); replace HK := a_ (KeepBut.trans (by repeat (first | (with_reducible first | exact HK.out | apply KeepBut.set_ | apply keep_drewN | apply keep_drew | apply keep_alloc) | exact HK.out)) (KeepBut.of_grown hg g) (Kd.R_base2 HO_5.out)); have HO338 := a_ (ho); clear HO_5; clear ho hb hg hat))
      go_roundg kj2
      case measure => have := HK1.out; have := HJ2.out; omega
      case rel => exact ⟨(y336), (wrap64 (x6_1 + 1)), (t334), (t335), rs_, H', ⟨by have := HK1.out; have := HJ2.out; omega⟩, ⟨Rl_ HO338.out⟩, ⟨by repeat (first | (with_reducible first | exact HI0.out | apply IsS63.alloc | apply IsS63.drewN | apply IsS63.drew | apply IsS63.set_1 | apply IsS63.set_2) | exact HI0.out)⟩, ⟨by repeat (first | (with_reducible first | exact HK.out | apply KeepBut.set_ | apply keep_drewN | apply keep_drew | apply keep_alloc) | exact HK.out)⟩, ⟨by repeat (first | (with_reducible first | exact HB.out | apply below_alloc | apply pw_below_drewN | apply below_drew1 | refine below_set ?_ (IsS63.ge HI0.out)) | exact HB.out)⟩⟩
     replace c5 := Bool.eq_false_iff.mpr c5
     subst c5
     rw [if_neg (show ¬ (false = true) by decide)] at H
     obtain ⟨⟨t339, t340, t341⟩, A12, H⟩ := ob_ H
     (try dsimp only at H)
     by_cases c13 : t339 = true
     rotate_left
     ·replace c13 := Bool.eq_false_iff.mpr c13
      subst c13
      rw [if_neg (show ¬ (false = true) by decide)] at H
      simp only [Option.some.injEq, Prod.mk.injEq] at H
      obtain ⟨rfl, rfl, rfl⟩ := H
      go_wp2_with (first | ((with_reducible refine gate_callee (f := 60) rfl ?_); refine gm_ (some 23) Try.func60 #[.pointer (some ⟨g, 0, none⟩), .int .i64 12] rfl ?_; (with_reducible refine (spec_l1Cur_one.calls g s0_0 x1001_1 x1002_1 12 false t340 t341 w0 _ ?side1 ?side2 A12.out).mono ?_); (case side1 => repeat (first | (with_reducible first | exact HI0.out | apply IsS63.alloc | apply IsS63.drewN | apply IsS63.drew | apply IsS63.set_1 | apply IsS63.set_2) | exact HI0.out)); (case side2 => repeat (first | (with_reducible first | exact HB.out | apply below_alloc | apply pw_below_drewN | apply below_drew1 | refine below_set ?_ (IsS63.ge HI0.out)) | exact HB.out)); rintro e w22 ⟨rfl, hi, hb, hk⟩; refine ⟨_, rfl, ?_⟩; replace HO_5 := a_ (Kd.R_mono (Kd.R_keep (IsS63.apart (show IsS63 w0 _ g s0_0 x1001_1 x1002_1 from by repeat (first | (with_reducible first | exact HI0.out | apply IsS63.alloc | apply IsS63.drewN | apply IsS63.drew | apply IsS63.set_1 | apply IsS63.set_2) | exact HI0.out)) (Rl_ HO_5.out) (by decide)) hk (fun _ h => h.2)) (fun _ h => h.1)); replace HK := a_ (KeepBut.trans (by repeat (first | (with_reducible first | exact HK.out | apply KeepBut.set_ | apply keep_drewN | apply keep_drew | apply keep_alloc) | exact HK.out)) hk (.inl rfl)); replace HB := a_ (hb); replace HI0 := a_ (hi); (try clear hb); (try clear hb2); (try clear hk); (try clear hi)))
      go_ret
      exact ⟨_, re_, by (with_reducible repeat (first | apply Kd.R_alloc | apply Kd.R_drewN | apply Kd.R_drew)); exact HO_5.out, by repeat (first | (with_reducible first | exact HI0.out | apply IsS63.alloc | apply IsS63.drewN | apply IsS63.drew | apply IsS63.set_1 | apply IsS63.set_2) | exact HI0.out), by repeat (first | (with_reducible first | exact HB.out | apply below_alloc | apply pw_below_drewN | apply below_drew1 | refine below_set ?_ (IsS63.ge HI0.out)) | exact HB.out), by repeat (first | (with_reducible first | exact HK.out | apply KeepBut.set_ | apply keep_drewN | apply keep_drew | apply keep_alloc) | exact HK.out)⟩
     subst c13
     rw [if_pos rfl] at H
     obtain ⟨y342, hy342⟩ : ∃ y_ : List Int, y_ = (([(-1), 0, a1, 4611686018427387904] : List Int)) := ⟨_, rfl⟩
     replace H : ((spec_l1Cur_among.f s0_0 t340 t341 y342).bind fun bt345 => (if x5_1.length < 17592186044416 then (some ((x5_1 ++ [bt345.1]), bt345.2.1, bt345.2.2)) else (none))) = some (r1, r2, r3) := by first | (rw [hy342]; with_reducible exact H) | (have H2_ := (Option.bind_some _ _).symm.trans H; rw [hy342]; with_reducible exact H2_) | (have H2_ := (Option.bind_some _ _).symm.trans H; with_reducible exact H2_) | with_reducible exact H | (rw [hy342]; exact H) | exact H
     have Ny342 := a_ hy342
     clear hy342
     obtain ⟨⟨t345, t346, t347⟩, A14, H⟩ := ob_ H
     (try dsimp only at H)
     by_cases c15 : x5_1.length < 17592186044416
     rotate_left
     ·rw [if_neg c15] at H
      cases H
     rw [if_pos c15] at H
     have LMc15 := a_ c15
     clear c15
     obtain ⟨y348, hy348⟩ : ∃ y_ : List Int, y_ = (x5_1 ++ [t345]) := ⟨_, rfl⟩
     replace H : (some (y348, t346, t347)) = some (r1, r2, r3) := by first | (rw [hy348]; with_reducible exact H) | (have H2_ := (Option.bind_some _ _).symm.trans H; rw [hy348]; with_reducible exact H2_) | (have H2_ := (Option.bind_some _ _).symm.trans H; with_reducible exact H2_) | with_reducible exact H | (rw [hy348]; exact H) | exact H
     have Ny348 := a_ hy348
     clear hy348
     simp only [Option.some.injEq, Prod.mk.injEq] at H
     obtain ⟨rfl, rfl, rfl⟩ := H
     go_wp2_with (first | ((with_reducible refine gate_callee (f := 60) rfl ?_); refine gm_ (some 23) Try.func60 #[.pointer (some ⟨g, 0, none⟩), .int .i64 12] rfl ?_; (with_reducible refine (spec_l1Cur_one.calls g s0_0 x1001_1 x1002_1 12 true t340 t341 w0 _ ?side1 ?side2 A12.out).mono ?_); (case side1 => repeat (first | (with_reducible first | exact HI0.out | apply IsS63.alloc | apply IsS63.drewN | apply IsS63.drew | apply IsS63.set_1 | apply IsS63.set_2) | exact HI0.out)); (case side2 => repeat (first | (with_reducible first | exact HB.out | apply below_alloc | apply pw_below_drewN | apply below_drew1 | refine below_set ?_ (IsS63.ge HI0.out)) | exact HB.out)); rintro e w16 ⟨rfl, hi, hb, hk⟩; refine ⟨_, rfl, ?_⟩; replace HO_5 := a_ (Kd.R_mono (Kd.R_keep (IsS63.apart (show IsS63 w0 _ g s0_0 x1001_1 x1002_1 from by repeat (first | (with_reducible first | exact HI0.out | apply IsS63.alloc | apply IsS63.drewN | apply IsS63.drew | apply IsS63.set_1 | apply IsS63.set_2) | exact HI0.out)) (Rl_ HO_5.out) (by decide)) hk (fun _ h => h.2)) (fun _ h => h.1)); replace HK := a_ (KeepBut.trans (by repeat (first | (with_reducible first | exact HK.out | apply KeepBut.set_ | apply keep_drewN | apply keep_drew | apply keep_alloc) | exact HK.out)) hk (.inl rfl)); replace HB := a_ (hb); replace HI0 := a_ (hi); (try clear hb); (try clear hb2); (try clear hk); (try clear hi)) | ((with_reducible refine gate_dst (N := 27) rfl ?_); refine Kd.R_lit (Kd.int .i64) _ 3 ?hg (N := 27) ?hd (xs := ([(-1), 0, a1, 4611686018427387904] : List Int)) (inner := [.int .i64 (-1), .int .i64 0, .int .i64 a1, .int .i64 4611686018427387904]) (ok := fun _ => True) (okp := fun _ => True) ?hr ?hp (fun _ hk => hk) trivial (Below.refl _ _) (Nat.le_refl _) (by simp) ?_; (case hd => rfl); (case hg => rfl); (case hr => first | (go_simp; done) | (go_simp; rfl)); (case hp => exact (Reps.one (show Kd.M (Kd.int .i64) _ _ _ (-1) [.int .i64 (-1)] from rfl) (Reps.one (show Kd.M (Kd.int .i64) _ _ _ 0 [.int .i64 0] from rfl) (Reps.one (show Kd.M (Kd.int .i64) _ _ _ a1 [.int .i64 a1] from rfl) (Reps.one (show Kd.M (Kd.int .i64) _ _ _ 4611686018427387904 [.int .i64 4611686018427387904] from rfl) (Reps.none _ _)))))); intro v343 w17 ho18 hb hg_ hnew_; clear hg_ hnew_; (first | rw [← Ny342.out] at ho18 | (simp only [Int.reduceToNat] at ho18; rw [← Ny342.out] at ho18)); have HO344 := a_ (Kd.R_lower (Kd.R_new' ho18 (Kd.R_lt (Rl_ HO_5.out))) (keep_size (w := w) (g := g) (row := none) (by repeat (first | (with_reducible first | exact HK.out | apply KeepBut.set_ | apply keep_drewN | apply keep_drew | apply keep_alloc) | exact HK.out)))); replace HO_5 := a_ (Kd.R_elder' (Rl_ HO_5.out) (Kd.R_base ho18) hb); replace HK := a_ (KeepBut.trans (by repeat (first | (with_reducible first | exact HK.out | apply KeepBut.set_ | apply keep_drewN | apply keep_drew | apply keep_alloc) | exact HK.out)) (KeepBut.of_below hb g none) (.inl rfl)); replace HB := a_ (below_step (by repeat (first | (with_reducible first | exact HB.out | apply below_alloc | apply pw_below_drewN | apply below_drew1 | refine below_set ?_ (IsS63.ge HI0.out)) | exact HB.out)) hb); replace HI0 := a_ (IsS63.below (by repeat (first | (with_reducible first | exact HI0.out | apply IsS63.alloc | apply IsS63.drewN | apply IsS63.drew | apply IsS63.set_1 | apply IsS63.set_2) | exact HI0.out)) hb); clear hb ho18; obtain ⟨Ao19, co19, eo19⟩ := Kd.R_slice HO344.out; subst eo19) | ((with_reducible refine gate_callee (f := 68) rfl ?_); refine gm_ (some 28) Try.func68 #[.pointer (some ⟨g, 0, none⟩), .slice Ao19 y342.length co19] rfl ?_; (with_reducible refine (spec_l1Cur_among.calls g s0_0 t340 t341 _ _ y342 t345 t346 t347 w0 _ ?side1 ?side2 ?side3 ?side4 ?side5 A14.out).mono ?_); (case side1 => repeat (first | (with_reducible first | exact HI0.out | apply IsS63.alloc | apply IsS63.drewN | apply IsS63.drew | apply IsS63.set_1 | apply IsS63.set_2) | exact HI0.out)); (case side2 => repeat (first | (with_reducible first | exact HB.out | apply below_alloc | apply pw_below_drewN | apply below_drew1 | refine below_set ?_ (IsS63.ge HI0.out)) | exact HB.out)); (case side3 => exact Cl_ (Kd.R_reads' HO344.out).2.2); (case side4 => exact (Kd.R_reads' HO344.out).2.1); (case side5 => exact far_slice (IsS63.own_ne HI0.out HO344.out (by decide))); rintro e w20 ⟨rfl, hi, hb, hk⟩; refine ⟨_, rfl, ?_⟩; replace HO_5 := a_ (Kd.R_mono (Kd.R_keep (IsS63.apart (show IsS63 w0 _ g s0_0 t340 t341 from by repeat (first | (with_reducible first | exact HI0.out | apply IsS63.alloc | apply IsS63.drewN | apply IsS63.drew | apply IsS63.set_1 | apply IsS63.set_2) | exact HI0.out)) (Rl_ HO_5.out) (by decide)) hk (fun _ h => h.2)) (fun _ h => h.1)); replace HO344 := a_ (Kd.R_mono (Kd.R_keep (IsS63.apart (show IsS63 w0 _ g s0_0 t340 t341 from by repeat (first | (with_reducible first | exact HI0.out | apply IsS63.alloc | apply IsS63.drewN | apply IsS63.drew | apply IsS63.set_1 | apply IsS63.set_2) | exact HI0.out)) (Rl_ HO344.out) (by decide)) hk (fun _ h => h.2)) (fun _ h => h.1)); replace HK := a_ (KeepBut.trans (by repeat (first | (with_reducible first | exact HK.out | apply KeepBut.set_ | apply keep_drewN | apply keep_drew | apply keep_alloc) | exact HK.out)) hk (.inl rfl)); replace HB := a_ (hb); replace HI0 := a_ (hi); (try clear hb); (try clear hb2); (try clear hk); (try clear hi)) | ((with_reducible refine gate_builtin (b := .append) (xs := #[.tmp 24, .tmp 29]) rfl ?_); at_builtin; refine Kd.R_append (Kd.int .i64) w.heap.size rfl (.tmp 24) (.tmp 29) 24 3 (.int .i64 0) 8 rfl Try.underlying24 info3 rfl (by decide) (by omega) u5 x5_1 t345 [.int .i64 t345] (fun k_ => some k_ ≠ (.slice Ao19 y342.length co19 : Value).ownBlock) (fun _ => False) rfl rfl ?aP (fun _ hk => hk.elim) ?aF ?aO (Below.refl _ _) ?aS ?aL ?_; (case aP => exact rfl); (case aF => exact (fun k_ hk => Kd.fresh' (Kd.R_lt (Rl_ HO344.out)) k_ hk)); (case aO => exact (Rl_ (Kd.R_mono HO_5.out (fun _ hk => hk.2)))); (case aS => exact (keep_size (w := w) (g := g) (row := none) (by repeat (first | (with_reducible first | exact HK.out | apply KeepBut.set_ | apply keep_drewN | apply keep_drew | apply keep_alloc) | exact HK.out)))); (case aL => have := LMc15.out; omega); intro v349 w21 ho hb hg hat; rw [← Ny348.out] at ho; replace HO344 := a_ (Kd.R_after (ok := (fun _ => True)) (Rl_ HO344.out) hg hat); replace HB := a_ (below_weaken (by repeat (first | (with_reducible first | exact HB.out | apply below_alloc | apply pw_below_drewN | apply below_drew1 | refine below_set ?_ (IsS63.ge HI0.out)) | exact HB.out)) HL.out hb); replace HI0 := a_ (IsS63.grown (by repeat (first | (with_reducible first | exact HI0.out | apply IsS63.alloc | apply IsS63.drewN | apply IsS63.drew | apply IsS63.set_1 | apply IsS63.set_2) | exact HI0.out)) hg (IsS63.own_ne HI0.out HO_5.out (by decide))); replace HK := a_ (KeepBut.trans (by repeat (first | (with_reducible first | exact HK.out | apply KeepBut.set_ | apply keep_drewN | apply keep_drew | apply keep_alloc) | exact HK.out)) (KeepBut.of_grown hg g) (Kd.R_base2 HO_5.out)); have HO350 := a_ (ho); clear HO_5; clear ho hb hg hat))
     go_ret
     exact ⟨_, re_, by (with_reducible repeat (first | apply Kd.R_alloc | apply Kd.R_drewN | apply Kd.R_drew)); exact Kd.R_mono HO350.out (fun _ hk => trivial), by repeat (first | (with_reducible first | exact HI0.out | apply IsS63.alloc | apply IsS63.drewN | apply IsS63.drew | apply IsS63.set_1 | apply IsS63.set_2) | exact HI0.out), by repeat (first | (with_reducible first | exact HB.out | apply below_alloc | apply pw_below_drewN | apply below_drew1 | refine below_set ?_ (IsS63.ge HI0.out)) | exact HB.out), by repeat (first | (with_reducible first | exact HK.out | apply KeepBut.set_ | apply keep_drewN | apply keep_drew | apply keep_alloc) | exact HK.out)⟩

/-! ### spec_DrawKeepStarts: function 15 -/
def spec_DrawKeepStarts.f (k : Nat) (l0 : List Int) : Option (Int × List Int × List Int) := (spec_l1Cur_ladder.f k l0 0 0).bind fun bt353 => ((spec_l1Cur_rising.f k l0 bt353.2.2.1 bt353.2.2.2 bt353.1).bind fun bt360 => (some (bt353.1, bt353.2.1, bt360.1)))
theorem spec_DrawKeepStarts.mono : ∀ a0 k, LeO (spec_DrawKeepStarts.f k a0) (spec_DrawKeepStarts.f (k + 1) a0) := by
 intro a0 k
 unfold spec_DrawKeepStarts.f
 repeat' first
  | (with_reducible exact spec_l1Cur_ladder.mono _ _ _ _)
  | (with_reducible exact spec_l1Cur_rising.mono _ _ _ _ _)
  | (with_reducible exact LeO.refl _)
  | (with_reducible exact LeO.none _)
  | (with_reducible refine LeO.ite ?_ ?_)
  | (with_reducible refine LeO.bind ?_ (fun _ => ?_))
  | exact LeO.none _
  | refine LeO.ite ?_ ?_
  | refine LeO.bind ?_ (fun _ => ?_)
set_option maxHeartbeats 8000000 in
set_option maxRecDepth 100000 in
theorem spec_DrawKeepStarts.calls (k : Nat) (A0 : Option Addr) (c0 : Nat) (l0 : List Int) (r1 : Int) (r2 : List Int) (r3 : List Int) (w : World) (hr0 : Kd.C (Kd.int .u8) w A0 l0.length l0) (hc0 : l0.length ≤ c0) (h : spec_DrawKeepStarts.f k l0 = some (r1, r2, r3)) :
 Calls Try.prog 15 #[.slice A0 l0.length c0] w fun e w' => ∃ v1_ v2_ : Value, e = .returned (.tuple #[.agg #[.int .i64 r1, v1_], v2_]) ∧ Kd.R (Kd.int .i64) 3 w' w.heap.size (fun k_ => some k_ ≠ (v2_ : Value).ownBlock) v1_ r2 ∧ Kd.R (Kd.int .i64) 3 w' w.heap.size (fun k_ => some k_ ≠ (v1_ : Value).ownBlock) v2_ r3 ∧ Below w.heap.size w w' := by
 have hu26 := Try.underlying26
 have hu63 := Try.underlying63
 have HR0 := a_ hr0
 have HC0 := a_ hc0
 clear hr0 hc0
 have HB := a_ (Below.refl w.heap.size w)
 have H : ((spec_l1Cur_ladder.f k l0 0 0).bind fun bt353 => ((spec_l1Cur_rising.f k l0 bt353.2.2.1 bt353.2.2.2 bt353.1).bind fun bt360 => (some (bt353.1, bt353.2.1, bt360.1)))) = some (r1, r2, r3) := h
 clear h
 obtain ⟨⟨t353, t354, t357, t358⟩, A2, H⟩ := ob_ H
 (try dsimp only at H)
 obtain ⟨⟨t360, t363, t364⟩, A3, H⟩ := ob_ H
 (try dsimp only at H)
 simp only [Option.some.injEq, Prod.mk.injEq] at H
 obtain ⟨rfl, rfl, rfl⟩ := H
 go_enter Try.func15, Try.ntmps15
 try go_wp2_with (first | ((with_reducible refine gate_dst (N := 2) rfl ?_); refine bx_ #[.int .i64 0, .slice none 0 0] 26 ?_ 2; intro gb351 hg w4 hbox hb; have BK351 := a_ (hbox); have GW351 := gw_ HB hg; have GE351 := gw_ HB hg; replace HB := Bs_ HB hb; clear hb hbox hg) | ((with_reducible refine gate_dst (N := 8) rfl ?_); refine bx_ #[.slice A0 l0.length c0, .int .i64 0, .int .u64 0] 63 ?_ 8; intro gb352 hg w5 hbox hb; have HI352 := a_ ((⟨_, _, hbox, (by rw [hg]; exact (below_size (Bl_ HB)) : w.heap.size ≤ gb352), HR0.out⟩ : IsS63 w w5 gb352 l0 0 0)); have GW352 := gw_ HB hg; have GE352 := gw_ HB hg; replace HB := Bs_ HB hb; have NB351_352 := nbl_ BK351 hg; have NB352_351 := nbg_ BK351 hg; replace BK351 := blkB_ BK351 hb; clear hb hbox hg) | ((with_reducible refine gate_callee (f := 43) rfl ?_); refine gm_ (some 10) Try.func43 #[.pointer (some ⟨gb352, 0, none⟩)] rfl ?_; (with_reducible refine (spec_l1Cur_ladder.calls k gb352 l0 0 0 t353 t354 t357 t358 w _ ?side1 ?side2 A2.out).mono ?_); (case side1 => repeat (first | (with_reducible first | exact HI352.out | apply IsS63.alloc | apply IsS63.drewN | apply IsS63.drew | apply IsS63.set_1 | apply IsS63.set_2 | refine IsS63.far ?_ NB352_351.out _) | exact HI352.out)); (case side2 => repeat (first | (with_reducible first | exact HB.out | apply below_alloc | apply pw_below_drewN | apply below_drew1 | refine below_set ?_ (IsS63.ge HI352.out) | refine below_set ?_ GE351.out) | exact HB.out)); rintro e w6 ⟨v355, rfl, ho0, hi, hb, hk⟩; refine ⟨_, rfl, ?_⟩; replace BK351 := a_ (KeepBut.blk hk (g' := gb351) (o := .cells #[.int .i64 0, .slice none 0 0] 26 (0, 0)) (bl_ BK351) NB351_352.out (by simp)); have HO356 := a_ (Kd.R_lower ho0 (below_size (by repeat (first | (with_reducible first | exact HB.out | apply below_alloc | apply pw_below_drewN | apply below_drew1 | refine below_set ?_ (IsS63.ge HI352.out) | refine below_set ?_ GE351.out) | exact HB.out)))); replace HB := a_ (hb); replace HI352 := a_ (hi); (try clear hb); (try clear hb2); (try clear hk); (try clear hi); (try clear ho0)) | ((with_reducible refine gate_dst (N := 5) rfl ?_); refine bx_ #[.int .i64 0, .slice none 0 0] 26 ?_ 5; intro gb359 hg w7 hbox hb; replace HO356 := a_ (Kd.R_below (Rl_ HO356.out) hb); have BK359 := a_ (hbox); have GW359 := a_ ((by rw [hg]; exact (below_size (by repeat (first | (with_reducible first | exact HB.out | apply below_alloc | apply pw_below_drewN | apply below_drew1 | refine below_set ?_ (IsS63.ge HI352.out) | refine below_set ?_ GE351.out) | exact HB.out))) : w.heap.size ≤ gb359)); have GE359 := a_ ((by rw [hg]; exact (below_size (by repeat (first | (with_reducible first | exact HB.out | apply below_alloc | apply pw_below_drewN | apply below_drew1 | refine below_set ?_ (IsS63.ge HI352.out) | refine below_set ?_ GE351.out) | exact HB.out))) : w.heap.size ≤ gb359)); replace HB := a_ (below_step (by repeat (first | (with_reducible first | exact HB.out | apply below_alloc | apply pw_below_drewN | apply below_drew1 | refine below_set ?_ (IsS63.ge HI352.out) | refine below_set ?_ GE351.out) | exact HB.out)) hb); have NB351_359 := nbl_ BK351 hg; have NB359_351 := nbg_ BK351 hg; replace BK351 := blkB_ BK351 hb; have NB352_359 := a_ ((by rw [hg]; exact Nat.ne_of_lt (IsS63.lt (show IsS63 w _ gb352 l0 t357 t358 from by repeat (first | (with_reducible first | exact HI352.out | apply IsS63.alloc | apply IsS63.drewN | apply IsS63.drew | apply IsS63.set_1 | apply IsS63.set_2 | refine IsS63.far ?_ NB352_351.out _) | exact HI352.out))) : gb352 ≠ gb359)); have NB359_352 := a_ ((by rw [hg]; exact Nat.ne_of_gt (IsS63.lt (show IsS63 w _ gb352 l0 t357 t358 from by repeat (first | (with_reducible first | exact HI352.out | apply IsS63.alloc | apply IsS63.drewN | apply IsS63.drew | apply IsS63.set_1 | apply IsS63.set_2 | refine IsS63.far ?_ NB352_351.out _) | exact HI352.out))) : gb359 ≠ gb352)); replace HI352 := a_ (IsS63.below (by repeat (first | (with_reducible first | exact HI352.out | apply IsS63.alloc | apply IsS63.drewN | apply IsS63.drew | apply IsS63.set_1 | apply IsS63.set_2 | refine IsS63.far ?_ NB352_351.out _) | exact HI352.out)) hb); clear hb hbox hg; have hnb8 := NB359_351.out; have hnc8 := NB351_359.out; have hnb9 := NB359_352.out; have hnc9 := NB352_359.out; have hcz10_0 := cz_ (.int .i64 0) BK359 0; have hcz10_1 := cz_ (.slice none 0 0) BK359 1; have hfz10_0 := fz_ BK359 0; have hfz10_1 := fz_ BK359 1; obtain ⟨Ao11, co11, eo11⟩ := Kd.R_slice HO356.out; subst eo11))
 have n0_ : Aside0 (Kd.R (Kd.int .i64) 3 ((w7.setCell ⟨gb359, 0, none⟩ (.int .i64 t353)).setCell ⟨gb359, 1, none⟩ (.slice Ao11 t354.length co11)) w.heap.size (fun _ => True) (.slice Ao11 t354.length co11) t354) := ⟨Rl_ (Kd.R_mono (Kd.R_far (p := ⟨gb359, 1, none⟩) (Kd.R_far (p := ⟨gb359, 0, none⟩) (Kd.R_types HO356.out BK359.out (by decide)) (fun _ hk => hk.2) (.int .i64 t353)) (fun _ hk => hk.2) (.slice Ao11 t354.length co11)) (fun _ hk => trivial))⟩
 have n1_ : Aside0 (((w7.setCell ⟨gb359, 0, none⟩ (.int .i64 t353)).setCell ⟨gb359, 1, none⟩ (.slice Ao11 t354.length co11)).heap[gb351]? = some (.cells #[.int .i64 0, .slice none 0 0] 26 (0, 0))) := ⟨by (with_reducible repeat (first | refine blk_drewN ?_ _ | refine blk_drew ?_ | refine blk_alloc ?_ _)); refine blk_far ?_ NB351_359.out _; (with_reducible repeat (first | refine blk_drewN ?_ _ | refine blk_drew ?_ | refine blk_alloc ?_ _)); refine blk_far ?_ NB351_359.out _; (with_reducible repeat (first | refine blk_drewN ?_ _ | refine blk_drew ?_ | refine blk_alloc ?_ _)); exact BK351.out⟩
 have n2_ : Aside0 (((w7.setCell ⟨gb359, 0, none⟩ (.int .i64 t353)).setCell ⟨gb359, 1, none⟩ (.slice Ao11 t354.length co11)).heap[gb359]? = some (.cells #[.int .i64 t353, .slice Ao11 t354.length co11] 26 (0, 0))) := ⟨by (with_reducible repeat (first | refine blk_drewN ?_ _ | refine blk_drew ?_ | refine blk_alloc ?_ _)); refine blk_put (cs := #[.int .i64 t353, .slice none 0 0]) ?_ 1 _ rfl; (with_reducible repeat (first | refine blk_drewN ?_ _ | refine blk_drew ?_ | refine blk_alloc ?_ _)); refine blk_put (cs := #[.int .i64 0, .slice none 0 0]) ?_ 0 _ rfl; (with_reducible repeat (first | refine blk_drewN ?_ _ | refine blk_drew ?_ | refine blk_alloc ?_ _)); exact BK359.out⟩
 have n3_ : Aside0 (IsS63 w ((w7.setCell ⟨gb359, 0, none⟩ (.int .i64 t353)).setCell ⟨gb359, 1, none⟩ (.slice Ao11 t354.length co11)) gb352 l0 t357 t358) := ⟨by repeat (first | (with_reducible first | exact HI352.out | apply IsS63.alloc | apply IsS63.drewN | apply IsS63.drew | apply IsS63.set_1 | apply IsS63.set_2 | refine IsS63.far ?_ NB352_351.out _ | refine IsS63.far ?_ NB352_359.out _) | exact HI352.out)⟩
 have n4_ : Aside0 (Below w.heap.size w ((w7.setCell ⟨gb359, 0, none⟩ (.int .i64 t353)).setCell ⟨gb359, 1, none⟩ (.slice Ao11 t354.length co11))) := ⟨by repeat (first | (with_reducible first | exact HB.out | apply below_alloc | apply pw_below_drewN | apply below_drew1 | refine below_set ?_ (IsS63.ge HI352.out) | refine below_set ?_ GE351.out | refine below_set ?_ GE359.out) | exact HB.out)⟩
 (try clear HO356)
 (try clear BK351)
 (try clear BK359)
 (try clear HI352)
 (try clear HB)
 generalize ((w7.setCell ⟨gb359, 0, none⟩ (.int .i64 t353)).setCell ⟨gb359, 1, none⟩ (.slice Ao11 t354.length co11)) = w12 at n0_ n1_ n2_ n3_ n4_ ⊢
 have HO356 := n0_
 have BK351 := n1_
 have BK359 := n2_
 have HI352 := n3_
 have HB := n4_
 clear n0_ n1_ n2_ n3_ n4_
 replace HO356 := a_ (Kd.R_drew HO356.out)
 replace BK351 := a_ (blk_drew BK351.out)
 replace BK359 := a_ (blk_drew BK359.out)
 replace HI352 := a_ (IsS63.drew HI352.out)
 replace HB := a_ (below_drew1 HB.out)
 refine start_ (n := 7) (S := fun w' => w'.cell? ⟨gb359, 0, none⟩ = some (.int .i64 t353) ∧ w'.cell? ⟨gb359, 1, none⟩ = some (.slice Ao11 t354.length co11)) (ds := []) #[false, false, false, false, false, false, false] (by kernel_rfl) rfl rfl ⟨(blk_cell BK359.out 0).trans rfl, (blk_cell BK359.out 1).trans rfl⟩ (fun hHeld => ?_)
 generalize w12.drew = w13 at HO356 BK351 BK359 HI352 HB hHeld ⊢
 refine pure_ (i := 1) (N := some 12) (v := ?_) (a' := ?_) #[false, true, false, false, false, false, false] rfl rfl (by kernel_rfl) (fun _ _ _ h => h) (Or.inl ⟨by rfl, ?_⟩) ?_ ?_
 rotate_left
 ·intro w'
  go_simp
  with_reducible rfl
 rotate_left
 ·simp only [Act.put, List.setIfInBounds_toArray, List.set_cons_zero, List.set_cons_succ, i64_w, i32_w]
  rfl
 refine pure_ (i := 2) (N := some 13) (v := ?_) (a' := ?_) #[false, true, true, false, false, false, false] rfl rfl (by kernel_rfl) (fun _ _ _ h => h) (Or.inl ⟨by rfl, ?_⟩) ?_ ?_
 rotate_left
 ·intro w'
  go_simp
  with_reducible rfl
 rotate_left
 ·simp only [Act.put, List.setIfInBounds_toArray, List.set_cons_zero, List.set_cons_succ, i64_w, i32_w]
  rfl
 refine take_ (i := 0) (N := some 11) (v := ?_) (a' := ?_) #[true, true, true, false, false, false, false] rfl rfl (by kernel_rfl) (fun _ _ _ h => h) (Or.inl ⟨by rfl, ?_⟩) hHeld ?_ ?_
 rotate_left
 ·rintro w' ⟨s0, s1⟩
  go_simp
  with_reducible rfl
 rotate_left
 ·simp only [Act.put, List.setIfInBounds_toArray, List.set_cons_zero, List.set_cons_succ, i64_w, i32_w]
  rfl
 refine take_ (i := 3) (N := some 14) (v := ?_) (a' := ?_) #[true, true, true, true, false, false, false] rfl rfl (by kernel_rfl) (fun _ _ _ h => h) (Or.inl ⟨by rfl, ?_⟩) hHeld ?_ ?_
 rotate_left
 ·rintro w' ⟨s0, s1⟩
  go_simp
  with_reducible rfl
 rotate_left
 ·simp only [Act.put, List.setIfInBounds_toArray, List.set_cons_zero, List.set_cons_succ, i64_w, i32_w]
  rfl
 refine one_ (i := 4) (N := some 15) #[true, true, true, true, true, false, false] rfl rfl (by kernel_rfl) (by decide) (fun K hK => ?_)
 refine gs_ Try.func44 (by kernel_rfl) rfl #[.pointer (some ⟨gb352, 0, none⟩), .int .i64 t353] (by rfl) rfl rfl ?_
 with_reducible refine (spec_l1Cur_rising.calls k gb352 l0 t357 t358 t353 t360 t363 t364 w _ ?side1 ?side2 A3.out).mono ?_
 (case side1 => repeat (first | (with_reducible first | exact HI352.out | apply IsS63.alloc | apply IsS63.drewN | apply IsS63.drew | apply IsS63.set_1 | apply IsS63.set_2 | refine IsS63.far ?_ NB352_351.out _ | refine IsS63.far ?_ NB352_359.out _) | exact HI352.out))
 (case side2 => repeat (first | (with_reducible first | exact HB.out | apply below_alloc | apply pw_below_drewN | apply below_drew1 | refine below_set ?_ (IsS63.ge HI352.out) | refine below_set ?_ GE351.out | refine below_set ?_ GE359.out) | exact HB.out))
 rintro e w14 ⟨v361, rfl, ho0, hi, hb, hk⟩
 refine ⟨_, rfl, ?_⟩
 replace BK351 := a_ (KeepBut.blk hk (g' := gb351) (o := .cells #[.int .i64 0, .slice none 0 0] 26 (0, 0)) (bl_ BK351) NB351_352.out (by simp))
 replace BK359 := a_ (KeepBut.blk hk (g' := gb359) (o := .cells #[.int .i64 t353, .slice Ao11 t354.length co11] 26 (0, 0)) (bl_ BK359) NB359_352.out (by simp))
 have HO362 := a_ (Kd.R_lower (Kd.R_new' ho0 (Kd.R_lt (Rl_ HO356.out))) (below_size (by repeat (first | (with_reducible first | exact HB.out | apply below_alloc | apply pw_below_drewN | apply below_drew1 | refine below_set ?_ (IsS63.ge HI352.out) | refine below_set ?_ GE351.out | refine below_set ?_ GE359.out) | exact HB.out))))
 replace HO356 := a_ (Kd.R_mono (Kd.R_told (Kd.R_oldK (IsS63.apart (show IsS63 w _ gb352 l0 t357 t358 from by repeat (first | (with_reducible first | exact HI352.out | apply IsS63.alloc | apply IsS63.drewN | apply IsS63.drew | apply IsS63.set_1 | apply IsS63.set_2 | refine IsS63.far ?_ NB352_351.out _ | refine IsS63.far ?_ NB352_359.out _) | exact HI352.out)) (Rl_ HO356.out) (by decide)) hk) (Kd.R_base ho0)) (fun _ h_ => h_.1))
 replace HB := a_ (hb)
 replace HI352 := a_ (hi)
 (try clear hb); (try clear hb2); (try clear hk); (try clear hi); (try clear ho0)
 refine hK.out _ _ ⟨(blk_cell BK359.out 0).trans rfl, (blk_cell BK359.out 1).trans rfl⟩ (fun hHeld => ?_)
 clear hK K
 refine norm_ (a' := ?_) ?_ ?_
 rotate_left
 ·show Act.put _ (some 15) _ = _
  simp only [Act.put, List.setIfInBounds_toArray, List.set_cons_zero, List.set_cons_succ, i64_w, i32_w]
  rfl
 refine one_ (i := 5) (N := none) #[true, true, true, true, true, true, false] rfl rfl (by kernel_rfl) (by decide) (fun K hK => ?_)
 have hs15 : w14.cell? ⟨gb351, 0, none⟩ = some (.int .i64 0) := (blk_cell BK351.out 0).trans rfl
 have hfs15 := fz_ BK351 0
 have hns15_1 := NB359_351.out
 have hms15_1 := NB351_359.out
 have hs16 : w14.cell? ⟨gb351, 1, none⟩ = some (.slice none 0 0) := (blk_cell BK351.out 1).trans rfl
 have hfs16 := fz_ BK351 1
 have hns16_1 := NB359_351.out
 have hms16_1 := NB351_359.out
 refine skip_ (w1 := ?_) (by rfl) rfl ?_ ?_
 rotate_left
 ·go_simp
  rfl
 refine hK.out _ _ ⟨((cell_far (p := ⟨gb351, _, none⟩) NB359_351.out _).trans (((cell_far (p := ⟨gb351, _, none⟩) NB359_351.out _).trans (hHeld.1)))), ((cell_far (p := ⟨gb351, _, none⟩) NB359_351.out _).trans (((cell_far (p := ⟨gb351, _, none⟩) NB359_351.out _).trans (hHeld.2))))⟩ (fun hHeld => ?_)
 clear hK K
 refine pure_ (i := 6) (N := some 3) (v := ?_) (a' := ?_) #[true, true, true, true, true, true, true] rfl rfl (by kernel_rfl) (fun _ _ _ h => h) (Or.inl ⟨by rfl, ?_⟩) ?_ ?_
 rotate_left
 ·intro w'
  go_simp
  with_reducible rfl
 rotate_left
 ·simp only [Act.put, List.setIfInBounds_toArray, List.set_cons_zero, List.set_cons_succ, i64_w, i32_w]
  rfl
 refine done_ (by kernel_rfl) ?_
 try go_wp2
 refine bodyPost_ret (results_ct rfl _ _ gb351 26 #[.int .i64 t353, .slice Ao11 t354.length co11] (0, 0) _ rfl (by (with_reducible repeat (first | refine blk_drewN ?_ _ | refine blk_drew ?_ | refine blk_alloc ?_ _)); refine blk_put (cs := #[.int .i64 t353, .slice none 0 0]) ?_ 1 _ rfl; (with_reducible repeat (first | refine blk_drewN ?_ _ | refine blk_drew ?_ | refine blk_alloc ?_ _)); refine blk_put (cs := #[.int .i64 0, .slice none 0 0]) ?_ 0 _ rfl; (with_reducible repeat (first | refine blk_drewN ?_ _ | refine blk_drew ?_ | refine blk_alloc ?_ _)); exact BK351.out) Try.underlying26 rfl (by kernel_rfl)) rfl ?_
 exact ⟨_, _, re_, by (with_reducible repeat (first | apply Kd.R_alloc | apply Kd.R_drewN | apply Kd.R_drew)); exact Kd.R_mono (Kd.R_far (p := ⟨gb351, 1, none⟩) (Kd.R_far (p := ⟨gb351, 0, none⟩) (Kd.R_types HO356.out BK351.out (by decide)) (fun _ hk => hk.2) (.int .i64 t353)) (fun _ hk => hk.2) (.slice Ao11 t354.length co11)) (fun _ hk => hk.1.2), by (with_reducible repeat (first | apply Kd.R_alloc | apply Kd.R_drewN | apply Kd.R_drew)); exact Kd.R_mono (Kd.R_far (p := ⟨gb351, 1, none⟩) (Kd.R_far (p := ⟨gb351, 0, none⟩) (Kd.R_types HO362.out BK351.out (by decide)) (fun _ hk => hk.2) (.int .i64 t353)) (fun _ hk => hk.2) (.slice Ao11 t354.length co11)) (fun _ hk => hk.1.2), by repeat (first | (with_reducible first | exact HB.out | apply below_alloc | apply pw_below_drewN | apply below_drew1 | refine below_set ?_ (IsS63.ge HI352.out) | refine below_set ?_ GE351.out | refine below_set ?_ GE359.out) | exact HB.out)⟩

/-! ### spec_mrRising: function 46 -/
def spec_mrRising.l0 : Nat → List Int → Int → Option (Bool)
 | 0, _, _ => none
 | k + 1, x0, x5 => if x5 < (x0.length : Int) then (if 0 ≤ (wrap64 (x5 - 1)) then (if (wrap64 (x5 - 1)) < (x0.length : Int) then (if 0 ≤ x5 then (if (rd x0 (wrap64 (x5 - 1))) ≥ (rd x0 x5) then (some false) else (spec_mrRising.l0 k x0 (wrap64 (x5 + 1)))) else (none)) else (none)) else (none)) else (some true)
def spec_mrRising.f (k : Nat) (l0 : List Int) (a1 : Int) : Option (Bool) := (spec_l1All.f k l0 0 (wrap64 (a1 - 1))).bind fun t365 => (if t365 = true then (spec_mrRising.l0 k l0 1) else (some false))
theorem spec_mrRising.mono_l : ∀ k, (∀ y0 y1, LeO (spec_mrRising.l0 k y0 y1) (spec_mrRising.l0 (k + 1) y0 y1))
 | 0 => fun _ _ r h => by simp [spec_mrRising.l0] at h
 | k + 1 => by
  have ih0 := spec_mrRising.mono_l k
  ·intro y0 y1
   unfold spec_mrRising.l0
   repeat' first
   | (with_reducible exact ih0 _ _)
   | (with_reducible exact LeO.refl _)
   | (with_reducible exact LeO.none _)
   | (with_reducible refine LeO.ite ?_ ?_)
   | (with_reducible refine LeO.bind ?_ (fun _ => ?_))
   | exact LeO.none _
   | refine LeO.ite ?_ ?_
   | refine LeO.bind ?_ (fun _ => ?_)
theorem spec_mrRising.mono : ∀ a0 a1 k, LeO (spec_mrRising.f k a0 a1) (spec_mrRising.f (k + 1) a0 a1) := by
 intro a0 a1 k
 have ih0 := spec_mrRising.mono_l k
 unfold spec_mrRising.f
 repeat' first
  | (with_reducible exact ih0 _ _)
  | (with_reducible exact spec_l1All.mono _ _ _ _)
  | (with_reducible exact LeO.refl _)
  | (with_reducible exact LeO.none _)
  | (with_reducible refine LeO.ite ?_ ?_)
  | (with_reducible refine LeO.bind ?_ (fun _ => ?_))
  | exact LeO.none _
  | refine LeO.ite ?_ ?_
  | refine LeO.bind ?_ (fun _ => ?_)
set_option maxHeartbeats 8000000 in
set_option maxRecDepth 100000 in
theorem spec_mrRising.calls (k : Nat) (A0 : Option Addr) (c0 : Nat) (l0 : List Int) (a1 : Int) (r : Bool) (w : World) (hr0 : Kd.C (Kd.int .i64) w A0 l0.length l0) (hc0 : l0.length ≤ c0) (h : spec_mrRising.f k l0 a1 = some r) :
 Calls Try.prog 46 #[.slice A0 l0.length c0, .int .i64 a1] w fun e w' => e = .returned (.bool r) ∧ Drawn0 w w' := by
 have HR0 := a_ hr0
 have HC0 := a_ hc0
 clear hr0 hc0
 have H : ((spec_l1All.f k l0 0 (wrap64 (a1 - 1))).bind fun t365 => (if t365 = true then (spec_mrRising.l0 k l0 1) else (some false))) = some r := h
 clear h
 obtain ⟨t365, A3, H⟩ := ob_ H
 (try dsimp only at H)
 by_cases c4 : t365 = true
 rotate_left
 ·replace c4 := Bool.eq_false_iff.mpr c4
  subst c4
  rw [if_neg (show ¬ (false = true) by decide)] at H
  obtain rfl := Option.some.inj H
  go_enter Try.func46, Try.ntmps46
  go_wp2_with (first | (go_at_call 69; (with_reducible refine (spec_l1All.calls k _ _ l0 0 (wrap64 (a1 - 1)) false _ ?side1 ?side2 A3.out).mono ?_); (case side1 => repeat (first | exact HR0.out | (with_reducible refine Kd.C_alloc ?_ _) | (with_reducible refine Kd.C_drewN ?_ _) | (with_reducible refine Kd.C_drew ?_))); (case side2 => exact HC0.out); rintro e w' ⟨rfl, ⟨nd, rfl⟩⟩; (try first | exact ⟨rfl, _, World.drewN_drewN _ _ _⟩ | exact ⟨rfl, _, Eq.trans (World.drewN_drewN _ _ _) (congrArg (World.drewN _) (Nat.add_assoc _ _ _))⟩)))
  repeat (go_quiet (first | (go_at_call 69; (with_reducible refine (spec_l1All.calls k _ _ l0 0 (wrap64 (a1 - 1)) false _ ?side1 ?side2 A3.out).mono ?_); (case side1 => repeat (first | exact HR0.out | (with_reducible refine Kd.C_alloc ?_ _) | (with_reducible refine Kd.C_drewN ?_ _) | (with_reducible refine Kd.C_drew ?_))); (case side2 => exact HC0.out); rintro e w' ⟨rfl, ⟨nd, rfl⟩⟩; (try first | exact ⟨rfl, _, World.drewN_drewN _ _ _⟩ | exact ⟨rfl, _, Eq.trans (World.drewN_drewN _ _ _) (congrArg (World.drewN _) (Nat.add_assoc _ _ _))⟩))); try go_wp2_with (first | (go_at_call 69; (with_reducible refine (spec_l1All.calls k _ _ l0 0 (wrap64 (a1 - 1)) false _ ?side1 ?side2 A3.out).mono ?_); (case side1 => repeat (first | exact HR0.out | (with_reducible refine Kd.C_alloc ?_ _) | (with_reducible refine Kd.C_drewN ?_ _) | (with_reducible refine Kd.C_drew ?_))); (case side2 => exact HC0.out); rintro e w' ⟨rfl, ⟨nd, rfl⟩⟩; (try first | exact ⟨rfl, _, World.drewN_drewN _ _ _⟩ | exact ⟨rfl, _, Eq.trans (World.drewN_drewN _ _ _) (congrArg (World.drewN _) (Nat.add_assoc _ _ _))⟩))))
  go_ret
  exact ⟨rs_, dr_⟩
 subst c4
 rw [if_pos rfl] at H
 have H' := a_ H
 clear H
 go_enter Try.func46, Try.ntmps46
 go_wp2_with (first | (go_at_call 69; (with_reducible refine (spec_l1All.calls k _ _ l0 0 (wrap64 (a1 - 1)) true _ ?side1 ?side2 A3.out).mono ?_); (case side1 => repeat (first | exact HR0.out | (with_reducible refine Kd.C_alloc ?_ _) | (with_reducible refine Kd.C_drewN ?_ _) | (with_reducible refine Kd.C_drew ?_))); (case side2 => exact HC0.out); rintro e w' ⟨rfl, ⟨nd, rfl⟩⟩; (try first | exact ⟨rfl, _, World.drewN_drewN _ _ _⟩ | exact ⟨rfl, _, Eq.trans (World.drewN_drewN _ _ _) (congrArg (World.drewN _) (Nat.add_assoc _ _ _))⟩)))
 repeat (go_quiet (first | (go_at_call 69; (with_reducible refine (spec_l1All.calls k _ _ l0 0 (wrap64 (a1 - 1)) true _ ?side1 ?side2 A3.out).mono ?_); (case side1 => repeat (first | exact HR0.out | (with_reducible refine Kd.C_alloc ?_ _) | (with_reducible refine Kd.C_drewN ?_ _) | (with_reducible refine Kd.C_drew ?_))); (case side2 => exact HC0.out); rintro e w' ⟨rfl, ⟨nd, rfl⟩⟩; (try first | exact ⟨rfl, _, World.drewN_drewN _ _ _⟩ | exact ⟨rfl, _, Eq.trans (World.drewN_drewN _ _ _) (congrArg (World.drewN _) (Nat.add_assoc _ _ _))⟩))); try go_wp2_with (first | (go_at_call 69; (with_reducible refine (spec_l1All.calls k _ _ l0 0 (wrap64 (a1 - 1)) true _ ?side1 ?side2 A3.out).mono ?_); (case side1 => repeat (first | exact HR0.out | (with_reducible refine Kd.C_alloc ?_ _) | (with_reducible refine Kd.C_drewN ?_ _) | (with_reducible refine Kd.C_drew ?_))); (case side2 => exact HC0.out); rintro e w' ⟨rfl, ⟨nd, rfl⟩⟩; (try first | exact ⟨rfl, _, World.drewN_drewN _ _ _⟩ | exact ⟨rfl, _, Eq.trans (World.drewN_drewN _ _ _) (congrArg (World.drewN _) (Nat.add_assoc _ _ _))⟩))))
 go_loopg [5] k (fun kq v5 w' => ∃ (x5_1 : Int), v5 = .int .i64 x5_1 ∧ Aside0 (spec_mrRising.l0 kq l0 x5_1 = some r) ∧ Aside0 (kq ≤ k) ∧ Drawn0 w w')
 case atStart => exact ⟨(1), rs_, H', ⟨Nat.le_refl _⟩, dr_⟩
 case round =>
  clear H'
  try clear p2
  try clear c4
  obtain ⟨x5_1, rfl, HA, HK1, ⟨m1, rfl⟩⟩ := hrel
  cases gk with
  | zero => exact absurd HA.out (by simp [spec_mrRising.l0])
  | succ k1 =>
   have H := HA.out
   clear HA
   simp only [spec_mrRising.l0] at H
   by_cases c5 : x5_1 < (l0.length : Int)
   rotate_left
   ·rw [if_neg c5] at H
    have c5b0 : decide (x5_1 < (l0.length : Int)) = false := decide_eq_false c5
    clear c5
    obtain rfl := Option.some.inj H
    go_wp2
    repeat (go_quiet (fail); try go_wp2)
    go_ret
    exact ⟨rs_, dr_⟩
   rw [if_pos c5] at H
   have c5b0 : decide (x5_1 < (l0.length : Int)) = true := decide_eq_true c5
   clear c5
   obtain ⟨ji6, hji6⟩ : ∃ j_ : Int, (wrap64 (x5_1 - 1)) = j_ := ⟨_, rfl⟩
   replace H : (if 0 ≤ (ji6) then (if (ji6) < (l0.length : Int) then (if 0 ≤ x5_1 then (if (rd l0 (ji6)) ≥ (rd l0 x5_1) then (some false) else (spec_mrRising.l0 k1 l0 (wrap64 (x5_1 + 1)))) else (none)) else (none)) else (none)) = some r := by first | (rw [hji6] at H; exact H) | (simp only [hji6] at H ⊢; exact H)
   have hji6w : (IntKind.i64.wrap (x5_1 - 1)) = ji6 := (i64_w _).trans hji6
   by_cases c7 : 0 ≤ (ji6)
   rotate_left
   ·rw [if_neg c7] at H
    cases H
   rw [if_pos c7] at H
   have c7b0 : decide (0 ≤ (ji6)) = true := decide_eq_true c7
   clear c7
   by_cases c8 : (ji6) < (l0.length : Int)
   rotate_left
   ·rw [if_neg c8] at H
    cases H
   rw [if_pos c8] at H
   have c8b0 : decide ((ji6) < (l0.length : Int)) = true := decide_eq_true c8
   clear c8
   by_cases c9 : 0 ≤ x5_1
   rotate_left
   ·rw [if_neg c9] at H
    cases H
   rw [if_pos c9] at H
   have c9b0 : decide (0 ≤ x5_1) = true := decide_eq_true c9
   clear c9
   by_cases c10 : (rd l0 (ji6)) ≥ (rd l0 x5_1)
   ·rw [if_pos c10] at H
    have c10b0 : decide ((rd l0 x5_1) ≤ (rd l0 (ji6))) = true := decide_eq_true c10
    clear c10
    obtain rfl := Option.some.inj H
    have p366 : 0 ≤ ((ji6) : Int) := od_
    have q366 : (ji6) < (l0.length : Int) := od_
    obtain ⟨ad366, e366, hx366_0⟩ := Kd.at_int HR0.out (ji6) p366 q366
    cases e366
    replace p366 := eq_true p366
    replace q366 := eq_true q366
    have p367 : 0 ≤ (x5_1 : Int) := od_
    have q367 : x5_1 < (l0.length : Int) := od_
    obtain ⟨ad367, e367, hx367_0⟩ := Kd.at_int HR0.out x5_1 p367 q367
    obtain rfl : ad366 = ad367 := (by injection e367)
    replace p367 := eq_true p367
    replace q367 := eq_true q367
    go_wp2
    repeat (go_quiet (fail); try go_wp2)
    go_ret
    exact ⟨by first | rfl | (simp; done) | (simp only [← hji6] <;> (first | rfl | simp)) | (simp [*]; done), dr_⟩
   rw [if_neg c10] at H
   have c10b0 : decide ((rd l0 x5_1) ≤ (rd l0 (ji6))) = false := decide_eq_false c10
   clear c10
   have H' := a_ H
   clear H
   have p366 : 0 ≤ ((ji6) : Int) := od_
   have q366 : (ji6) < (l0.length : Int) := od_
   obtain ⟨ad366, e366, hx366_0⟩ := Kd.at_int HR0.out (ji6) p366 q366
   cases e366
   replace p366 := eq_true p366
   replace q366 := eq_true q366
   have p367 : 0 ≤ (x5_1 : Int) := od_
   have q367 : x5_1 < (l0.length : Int) := od_
   obtain ⟨ad367, e367, hx367_0⟩ := Kd.at_int HR0.out x5_1 p367 q367
   obtain rfl : ad366 = ad367 := (by injection e367)
   replace p367 := eq_true p367
   replace q367 := eq_true q367
   go_wp2
   repeat (go_quiet (fail); try go_wp2)
   go_roundg k1
   case measure => have := HK1.out; omega
   case rel => exact ⟨(wrap64 (x5_1 + 1)), rs_, H', ⟨by have := HK1.out; omega⟩, dr_⟩

/-! ### spec_l1Own: function 47 -/
def spec_l1Own.f (l0 : List Int) : Option (List Int) := (some (([] : List Int) : List Int)).bind fun y368 => (if y368.length + l0.length < 17592186044416 then (some (y368 ++ l0)) else (none))
set_option maxHeartbeats 8000000 in
set_option maxRecDepth 100000 in
theorem spec_l1Own.calls (A0 : Option Addr) (c0 : Nat) (l0 : List Int) (r : List Int) (w : World) (hr0 : Kd.C (Kd.int .i64) w A0 l0.length l0) (hc0 : l0.length ≤ c0) (h : spec_l1Own.f l0 = some r) :
 Calls Try.prog 47 #[.slice A0 l0.length c0] w fun e w' => ∃ v0_ : Value, e = .returned (v0_) ∧ Kd.R (Kd.int .i64) 3 w' w.heap.size (fun _ => True) v0_ r ∧ Below w.heap.size w w' := by
 have HR0 := a_ hr0
 have HC0 := a_ hc0
 clear hr0 hc0
 have HB := a_ (Below.refl w.heap.size w)
 have H : ((some (([] : List Int) : List Int)).bind fun y368 => (if y368.length + l0.length < 17592186044416 then (some (y368 ++ l0)) else (none))) = some r := h
 clear h
 obtain ⟨y368, hy368⟩ : ∃ y_ : List Int, y_ = (([] : List Int)) := ⟨_, rfl⟩
 replace H : (if y368.length + l0.length < 17592186044416 then (some (y368 ++ l0)) else (none)) = some r := by first | (rw [hy368]; with_reducible exact H) | (have H2_ := (Option.bind_some _ _).symm.trans H; rw [hy368]; with_reducible exact H2_) | (have H2_ := (Option.bind_some _ _).symm.trans H; with_reducible exact H2_) | with_reducible exact H | (rw [hy368]; exact H) | exact H
 have Ny368 := a_ hy368
 clear hy368
 by_cases c2 : y368.length + l0.length < 17592186044416
 rotate_left
 ·rw [if_neg c2] at H
  cases H
 rw [if_pos c2] at H
 have LMc2 := a_ c2
 clear c2
 obtain ⟨y371, hy371⟩ : ∃ y_ : List Int, y_ = (y368 ++ l0) := ⟨_, rfl⟩
 replace H : (some y371) = some r := by first | (rw [hy371]; with_reducible exact H) | (have H2_ := (Option.bind_some _ _).symm.trans H; rw [hy371]; with_reducible exact H2_) | (have H2_ := (Option.bind_some _ _).symm.trans H; with_reducible exact H2_) | with_reducible exact H | (rw [hy371]; exact H) | exact H
 have Ny371 := a_ hy371
 clear hy371
 obtain rfl := Option.some.inj H
 go_enter Try.func47, Try.ntmps47
 go_wp2_with (first | ((with_reducible refine gate_dst (N := 3) rfl ?_); refine Kd.R_lit (Kd.int .i64) _ 3 ?hg (N := 3) ?hd (xs := ([] : List Int)) (inner := []) (ok := fun _ => True) (okp := fun _ => True) ?hr ?hp (fun _ hk => hk) trivial (Below.refl _ _) (Nat.le_refl _) (by simp) ?_; (case hd => rfl); (case hg => rfl); (case hr => first | (go_simp; done) | (go_simp; rfl)); (case hp => exact (Reps.none _ _)); intro v369 w3 ho4 hb hg_ hnew_; clear hg_ hnew_; (first | rw [← Ny368.out] at ho4 | (simp only [Int.reduceToNat] at ho4; rw [← Ny368.out] at ho4)); have HO370 := a_ (Kd.R_lower ho4 (below_size (Bl_ HB))); replace HB := Bs_ HB hb; clear hb ho4) | ((with_reducible refine gate_builtin (b := .append) (xs := #[.tmp 3, .tmp 4]) rfl ?_); at_builtin; refine Kd.R_append_rows (Kd.int .i64) (w0 := w) w.heap.size rfl (.tmp 3) (.tmp 4) 24 3 (.int .i64 0) 8 rfl Try.underlying24 info3 rfl (by decide) (by omega) v369 y368 l0 _ _ _ (fun _ => True) (fun _ => False) rfl rfl ?aO ?aR (fun _ _ h => h) (fun _ h => h.elim) ?aF ?aB ?aS ?aL ?_; (case aR => exact Cl_ (Kd.C_below HR0.out HB.out)); (case aB => exact (Bl_ HB)); (case aF => exact (fun _ _ => trivial)); (case aO => exact (Rl_ HO370.out)); (case aS => exact (below_size (Bl_ HB))); (case aL => have := LMc2.out; omega); intro v372 w5 ho hb hg hat; rw [← Ny371.out] at ho; replace HB := a_ (hb); have HO373 := a_ (ho); clear HO370; clear ho hb hg hat))
 go_ret
 exact ⟨_, re_, by (with_reducible repeat (first | apply Kd.R_alloc | apply Kd.R_drewN | apply Kd.R_drew)); exact HO373.out, Bl_ HB⟩

/-! ### spec_l1Has: function 48 -/
def spec_l1Has.l0 : Nat → Int → List Int → Int → Int → Option (Bool)
 | 0, _, _, _, _ => none
 | k + 1, x1, x7, x8, x9 => if x9 < x8 then (if 0 ≤ x9 then (if x9 < (x7.length : Int) then (if (rd x7 x9) = x1 then (some true) else (spec_l1Has.l0 k x1 x7 x8 (wrap64 (x9 + 1)))) else (none)) else (none)) else (some false)
def spec_l1Has.f (k : Nat) (l0 : List Int) (a1 : Int) : Option (Bool) := spec_l1Has.l0 k a1 l0 (l0.length : Int) 0
theorem spec_l1Has.mono_l : ∀ k, (∀ y0 y1 y2 y3, LeO (spec_l1Has.l0 k y0 y1 y2 y3) (spec_l1Has.l0 (k + 1) y0 y1 y2 y3))
 | 0 => fun _ _ _ _ r h => by simp [spec_l1Has.l0] at h
 | k + 1 => by
  have ih0 := spec_l1Has.mono_l k
  ·intro y0 y1 y2 y3
   unfold spec_l1Has.l0
   repeat' first
   | (with_reducible exact ih0 _ _ _ _)
   | (with_reducible exact LeO.refl _)
   | (with_reducible exact LeO.none _)
   | (with_reducible refine LeO.ite ?_ ?_)
   | (with_reducible refine LeO.bind ?_ (fun _ => ?_))
   | exact LeO.none _
   | refine LeO.ite ?_ ?_
   | refine LeO.bind ?_ (fun _ => ?_)
theorem spec_l1Has.mono : ∀ a0 a1 k, LeO (spec_l1Has.f k a0 a1) (spec_l1Has.f (k + 1) a0 a1) := by
 intro a0 a1 k
 have ih0 := spec_l1Has.mono_l k
 unfold spec_l1Has.f
 repeat' first
  | (with_reducible exact ih0 _ _ _ _)
  | (with_reducible exact LeO.refl _)
  | (with_reducible exact LeO.none _)
  | (with_reducible refine LeO.ite ?_ ?_)
  | (with_reducible refine LeO.bind ?_ (fun _ => ?_))
  | exact LeO.none _
  | refine LeO.ite ?_ ?_
  | refine LeO.bind ?_ (fun _ => ?_)
set_option maxHeartbeats 8000000 in
set_option maxRecDepth 100000 in
theorem spec_l1Has.calls (k : Nat) (A0 : Option Addr) (c0 : Nat) (l0 : List Int) (a1 : Int) (r : Bool) (w : World) (hr0 : Kd.C (Kd.int .i64) w A0 l0.length l0) (hc0 : l0.length ≤ c0) (h : spec_l1Has.f k l0 a1 = some r) :
 Calls Try.prog 48 #[.slice A0 l0.length c0, .int .i64 a1] w fun e w' => e = .returned (.bool r) ∧ Drawn0 w w' := by
 have HR0 := a_ hr0
 have HC0 := a_ hc0
 clear hr0 hc0
 have H : (spec_l1Has.l0 k a1 l0 (l0.length : Int) 0) = some r := h
 clear h
 have H' := a_ H
 clear H
 go_enter Try.func48, Try.ntmps48
 go_wp2
 go_loopg [9] k (fun kq v9 w' => ∃ (x9_1 : Int), v9 = .int .i64 x9_1 ∧ Aside0 (spec_l1Has.l0 kq a1 l0 (l0.length : Int) x9_1 = some r) ∧ Aside0 (kq ≤ k) ∧ Drawn0 w w')
 case atStart => exact ⟨(0), rs_, H', ⟨Nat.le_refl _⟩, dr_⟩
 case round =>
  clear H'
  try clear p2
  obtain ⟨x9_1, rfl, HA, HK1, ⟨m1, rfl⟩⟩ := hrel
  cases gk with
  | zero => exact absurd HA.out (by simp [spec_l1Has.l0])
  | succ k1 =>
   have H := HA.out
   clear HA
   simp only [spec_l1Has.l0] at H
   by_cases c3 : x9_1 < (l0.length : Int)
   rotate_left
   ·rw [if_neg c3] at H
    have c3b0 : decide (x9_1 < (l0.length : Int)) = false := decide_eq_false c3
    clear c3
    obtain rfl := Option.some.inj H
    go_wp2
    go_ret
    exact ⟨rs_, dr_⟩
   rw [if_pos c3] at H
   have c3b0 : decide (x9_1 < (l0.length : Int)) = true := decide_eq_true c3
   clear c3
   by_cases c4 : 0 ≤ x9_1
   rotate_left
   ·rw [if_neg c4] at H
    cases H
   rw [if_pos c4] at H
   have c4b0 : decide (0 ≤ x9_1) = true := decide_eq_true c4
   clear c4
   by_cases c5 : x9_1 < (l0.length : Int)
   rotate_left
   ·rw [if_neg c5] at H
    cases H
   rw [if_pos c5] at H
   have c5b0 : decide (x9_1 < (l0.length : Int)) = true := decide_eq_true c5
   clear c5
   by_cases c6 : (rd l0 x9_1) = a1
   ·rw [if_pos c6] at H
    have c6b0 : ((rd l0 x9_1) == a1) = true := beq_iff_eq.mpr c6
    have c6b1 : ((rd l0 x9_1) != a1) = false := bne_eq_false_iff_eq.mpr c6
    clear c6
    obtain rfl := Option.some.inj H
    have p374 : 0 ≤ (x9_1 : Int) := od_
    have q374 : x9_1 < (l0.length : Int) := od_
    obtain ⟨ad374, e374, hx374_0⟩ := Kd.at_int HR0.out x9_1 p374 q374
    cases e374
    replace p374 := eq_true p374
    replace q374 := eq_true q374
    go_wp2
    go_ret
    exact ⟨rs_, dr_⟩
   rw [if_neg c6] at H
   have c6b0 : ((rd l0 x9_1) == a1) = false := beq_eq_false_iff_ne.mpr c6
   have c6b1 : ((rd l0 x9_1) != a1) = true := bne_iff_ne.mpr c6
   have H' := a_ H
   clear H
   have p374 : 0 ≤ (x9_1 : Int) := od_
   have q374 : x9_1 < (l0.length : Int) := od_
   obtain ⟨ad374, e374, hx374_0⟩ := Kd.at_int HR0.out x9_1 p374 q374
   cases e374
   replace p374 := eq_true p374
   replace q374 := eq_true q374
   go_wp2
   go_roundg k1
   case measure => have := HK1.out; omega
   case rel => exact ⟨(wrap64 (x9_1 + 1)), rs_, H', ⟨by have := HK1.out; omega⟩, dr_⟩

/-! ### spec_KeepStarts: function 16 -/
mutual
def spec_KeepStarts.j0 : Nat → List Int → Bool → Int → List Int → Option (Int × List Int × Bool)
 | 0, _, _, _, _ => none
 | k + 1, x1, x22, x376000, x376001 => if x22 = true then (some (0, ([] : List Int), false)) else ((spec_l1Own.f x376001).bind fun t379 => (spec_KeepStarts.l0 k x1 t379 (wrap64 (x376000 - 1))))
def spec_KeepStarts.l0 : Nat → List Int → List Int → Int → Option (Int × List Int × Bool)
 | 0, _, _, _ => none
 | k + 1, x1, x6, x7 => if x7 ≥ 0 then ((spec_l1Has.f k x1 x7).bind fun t382 => (if t382 = true then (spec_KeepStarts.l0 k x1 x6 (wrap64 (x7 - 1))) else ((spec_mrTake.f k x6 x7).bind fun t383 => (spec_KeepStarts.l0 k x1 t383 (wrap64 (x7 - 1)))))) else (some ((x1.length : Int), x6, true))
end
def spec_KeepStarts.f (k : Nat) (a0_0 : Int) (l0_1 : List Int) (l1 : List Int) : Option (Int × List Int × Bool) := (spec_laGood.f k a0_0 l0_1).bind fun t377 => (if t377 = true then (if (l1.length : Int) < 2 then (spec_KeepStarts.j0 k l1 true a0_0 l0_1) else ((spec_mrRising.f k l1 a0_0).bind fun t378 => (spec_KeepStarts.j0 k l1 (!t378) a0_0 l0_1))) else (spec_KeepStarts.j0 k l1 true a0_0 l0_1))
theorem spec_KeepStarts.mono_l : ∀ k, (∀ y0 y1 y2 y3, LeO (spec_KeepStarts.j0 k y0 y1 y2 y3) (spec_KeepStarts.j0 (k + 1) y0 y1 y2 y3)) ∧ (∀ y0 y1 y2, LeO (spec_KeepStarts.l0 k y0 y1 y2) (spec_KeepStarts.l0 (k + 1) y0 y1 y2))
 | 0 => ⟨fun _ _ _ _ r h => by simp [spec_KeepStarts.j0] at h, fun _ _ _ r h => by simp [spec_KeepStarts.l0] at h⟩
 | k + 1 => by
  obtain ⟨ih0, ih1⟩ := spec_KeepStarts.mono_l k
  refine ⟨?_, ?_⟩
  ·intro y0 y1 y2 y3
   unfold spec_KeepStarts.j0
   repeat' first
   | (with_reducible exact ih1 _ _ _)
   | (with_reducible exact LeO.refl _)
   | (with_reducible exact LeO.none _)
   | (with_reducible refine LeO.ite ?_ ?_)
   | (with_reducible refine LeO.bind ?_ (fun _ => ?_))
   | exact LeO.none _
   | refine LeO.ite ?_ ?_
   | refine LeO.bind ?_ (fun _ => ?_)
  ·intro y0 y1 y2
   unfold spec_KeepStarts.l0
   repeat' first
   | (with_reducible exact ih1 _ _ _)
   | (with_reducible exact spec_l1Has.mono _ _ _)
   | (with_reducible exact spec_mrTake.mono _ _ _)
   | (with_reducible exact LeO.refl _)
   | (with_reducible exact LeO.none _)
   | (with_reducible refine LeO.ite ?_ ?_)
   | (with_reducible refine LeO.bind ?_ (fun _ => ?_))
   | exact LeO.none _
   | refine LeO.ite ?_ ?_
   | refine LeO.bind ?_ (fun _ => ?_)
theorem spec_KeepStarts.mono : ∀ a0 a1 a2 k, LeO (spec_KeepStarts.f k a0 a1 a2) (spec_KeepStarts.f (k + 1) a0 a1 a2) := by
 intro a0 a1 a2 k
 obtain ⟨ih0, ih1⟩ := spec_KeepStarts.mono_l k
 unfold spec_KeepStarts.f
 repeat' first
  | (with_reducible exact ih0 _ _ _ _)
  | (with_reducible exact spec_laGood.mono _ _ _)
  | (with_reducible exact spec_mrRising.mono _ _ _)
  | (with_reducible exact LeO.refl _)
  | (with_reducible exact LeO.none _)
  | (with_reducible refine LeO.ite ?_ ?_)
  | (with_reducible refine LeO.bind ?_ (fun _ => ?_))
  | exact LeO.none _
  | refine LeO.ite ?_ ?_
  | refine LeO.bind ?_ (fun _ => ?_)
set_option maxHeartbeats 8000000 in
set_option maxRecDepth 100000 in
theorem spec_KeepStarts.calls (k : Nat) (a0_0 : Int) (A0_1 : Option Addr) (c0_1 : Nat) (l0_1 : List Int) (A1 : Option Addr) (c1 : Nat) (l1 : List Int) (r1 : Int) (r2 : List Int) (r3 : Bool) (w : World) (hr0_1 : Kd.C (Kd.int .i64) w A0_1 l0_1.length l0_1) (hc0_1 : l0_1.length ≤ c0_1) (hr1 : Kd.C (Kd.int .i64) w A1 l1.length l1) (hc1 : l1.length ≤ c1) (h : spec_KeepStarts.f k a0_0 l0_1 l1 = some (r1, r2, r3)) :
 Calls Try.prog 16 #[.agg #[.int .i64 a0_0, .slice A0_1 l0_1.length c0_1], .slice A1 l1.length c1] w fun e w' => ∃ v1_ : Value, e = .returned (.tuple #[.agg #[.int .i64 r1, v1_], .bool r3]) ∧ Kd.R (Kd.int .i64) 3 w' w.heap.size (fun _ => True) v1_ r2 ∧ Below w.heap.size w w' := by
 have hu26 := Try.underlying26
 have HR0_1 := a_ hr0_1
 have HC0_1 := a_ hc0_1
 clear hr0_1 hc0_1
 have HR1 := a_ hr1
 have HC1 := a_ hc1
 clear hr1 hc1
 have HB := a_ (Below.refl w.heap.size w)
 have H : ((spec_laGood.f k a0_0 l0_1).bind fun t377 => (if t377 = true then (if (l1.length : Int) < 2 then (spec_KeepStarts.j0 k l1 true a0_0 l0_1) else ((spec_mrRising.f k l1 a0_0).bind fun t378 => (spec_KeepStarts.j0 k l1 (!t378) a0_0 l0_1))) else (spec_KeepStarts.j0 k l1 true a0_0 l0_1))) = some (r1, r2, r3) := h
 clear h
 have HC3 := a_ H
 clear H
 go_enter Try.func16, Try.ntmps16
 go_upto_region 1 with (first | ((with_reducible refine gate_dst (N := 2) rfl ?_); (try (refine gate_guard (by rfl) ?_; dsimp only)); refine bx_ #[.int .i64 a0_0, .slice A0_1 l0_1.length c0_1] 26 ?_ 2; intro gb375 hg w4 hbox hb; have BK375 := a_ (hbox); have GW375 := gw_ HB hg; have GE375 := gw_ HB hg; replace HB := Bs_ HB hb; clear hb hbox hg) | ((with_reducible refine gate_dst (N := 4) rfl ?_); (try (refine gate_guard (by rfl) ?_; dsimp only)); refine bx_ #[.int .i64 0, .slice none 0 0] 26 ?_ 4; intro gb376 hg w5 hbox hb; have BK376 := a_ (hbox); have GW376 := gw_ HB hg; have GE376 := gw_ HB hg; replace HB := Bs_ HB hb; have NB375_376 := nbl_ BK375 hg; have NB376_375 := nbg_ BK375 hg; replace BK375 := blkB_ BK375 hb; clear hb hbox hg))
 (try simp only [Act.put, List.setIfInBounds_toArray, List.set_cons_zero, List.set_cons_succ])
 go_cut [22] (fun v22 wc => ∃ (kq : Nat) (x22_2 : Bool), v22 = .bool x22_2 ∧ Aside0 (spec_KeepStarts.j0 kq l1 x22_2 a0_0 l0_1 = some (r1, r2, r3)) ∧ Aside0 (kq ≤ k) ∧ Aside0 (wc.heap[gb375]? = some (.cells #[.int .i64 a0_0, (.slice A0_1 l0_1.length c0_1)] 26 (0, 0))) ∧ Aside0 (wc.heap[gb376]? = some (.cells #[.int .i64 0, (.slice none 0 0)] 26 (0, 0))) ∧ Aside0 (Below w.heap.size w wc))
 case first =>
  have H := HC3.out
  clear HC3
  obtain ⟨t377, A6, H⟩ := ob_ H
  (try dsimp only at H)
  by_cases c7 : t377 = true
  rotate_left
  ·replace c7 := Bool.eq_false_iff.mpr c7
   subst c7
   rw [if_neg (show ¬ (false = true) by decide)] at H
   have H' := a_ H
   clear H
   have hnb17 := NB375_376.out
   have hnc17 := NB376_375.out
   have hcz18_0 := cz_ (.int .i64 a0_0) BK375 0
   have hcz18_1 := cz_ (.slice A0_1 l0_1.length c0_1) BK375 1
   have hfz18_0 := fz_ BK375 0
   have hfz18_1 := fz_ BK375 1
   go_wp2_with (first | ((with_reducible refine gate_callee (f := 45) rfl ?_); refine gm_ (some 9) Try.func45 #[.agg #[.int .i64 a0_0, .slice A0_1 l0_1.length c0_1]] rfl ?_; (with_reducible refine (spec_laGood.calls k a0_0 _ _ l0_1 false _ ?side1 ?side2 A6.out).mono ?_); (case side1 => exact Cl_ (Kd.C_below HR0_1.out HB.out)); (case side2 => exact HC0_1.out); rintro e w19 ⟨rfl, hb⟩; refine ⟨_, rfl, ?_⟩; replace BK375 := blkB_ BK375 hb; replace BK376 := blkB_ BK376 hb; replace HB := Bs_ HB hb; (try clear hb); (try clear hb2); (try clear hk); (try clear hi)))
   go_meet
   case rel => exact ⟨_, (true), rs_, H', ⟨by first | omega | exact Nat.le_refl _⟩, ⟨bl_ BK375⟩, ⟨bl_ BK376⟩, ⟨Bl_ HB⟩⟩
  subst c7
  rw [if_pos rfl] at H
  by_cases c8 : (l1.length : Int) < 2
  ·rw [if_pos c8] at H
   have c8b0 : decide ((l1.length : Int) < 2) = true := decide_eq_true c8
   have c8b1 : decide (l1.length < 2) = true := decide_eq_true (by omega)
   clear c8
   (first | rw [c8b0] | (simp only [i64_w, i32_w]; rw [c8b0]) | skip)
   have H' := a_ H
   clear H
   have hnb9 := NB375_376.out
   have hnc9 := NB376_375.out
   have hcz10_0 := cz_ (.int .i64 a0_0) BK375 0
   have hcz10_1 := cz_ (.slice A0_1 l0_1.length c0_1) BK375 1
   have hfz10_0 := fz_ BK375 0
   have hfz10_1 := fz_ BK375 1
   go_wp2_with (first | ((with_reducible refine gate_callee (f := 45) rfl ?_); refine gm_ (some 9) Try.func45 #[.agg #[.int .i64 a0_0, .slice A0_1 l0_1.length c0_1]] rfl ?_; (with_reducible refine (spec_laGood.calls k a0_0 _ _ l0_1 true _ ?side1 ?side2 A6.out).mono ?_); (case side1 => exact Cl_ (Kd.C_below HR0_1.out HB.out)); (case side2 => exact HC0_1.out); rintro e w11 ⟨rfl, hb⟩; refine ⟨_, rfl, ?_⟩; replace BK375 := blkB_ BK375 hb; replace BK376 := blkB_ BK376 hb; replace HB := Bs_ HB hb; (try clear hb); (try clear hb2); (try clear hk); (try clear hi)))
   go_meet
   case rel => exact ⟨_, (true), rs_, H', ⟨by first | omega | exact Nat.le_refl _⟩, ⟨bl_ BK375⟩, ⟨bl_ BK376⟩, ⟨Bl_ HB⟩⟩
  rw [if_neg c8] at H
  have c8b0 : decide ((l1.length : Int) < 2) = false := decide_eq_false c8
  have c8b1 : decide (l1.length < 2) = false := decide_eq_false (by omega)
  clear c8
  (first | rw [c8b0] | (simp only [i64_w, i32_w]; rw [c8b0]) | skip)
  obtain ⟨t378, A12, H⟩ := ob_ H
  (try dsimp only at H)
  have H' := a_ H
  clear H
  have hnb13 := NB375_376.out
  have hnc13 := NB376_375.out
  have hcz14_0 := cz_ (.int .i64 a0_0) BK375 0
  have hcz14_1 := cz_ (.slice A0_1 l0_1.length c0_1) BK375 1
  have hfz14_0 := fz_ BK375 0
  have hfz14_1 := fz_ BK375 1
  go_wp2_with (first | ((with_reducible refine gate_callee (f := 45) rfl ?_); refine gm_ (some 9) Try.func45 #[.agg #[.int .i64 a0_0, .slice A0_1 l0_1.length c0_1]] rfl ?_; (with_reducible refine (spec_laGood.calls k a0_0 _ _ l0_1 true _ ?side1 ?side2 A6.out).mono ?_); (case side1 => exact Cl_ (Kd.C_below HR0_1.out HB.out)); (case side2 => exact HC0_1.out); rintro e w15 ⟨rfl, hb⟩; refine ⟨_, rfl, ?_⟩; replace BK375 := blkB_ BK375 hb; replace BK376 := blkB_ BK376 hb; replace HB := Bs_ HB hb; (try clear hb); (try clear hb2); (try clear hk); (try clear hi); have hcz16_0 := cz_ (.int .i64 a0_0) BK375 0; have hcz16_1 := cz_ (.slice A0_1 l0_1.length c0_1) BK375 1; have hfz16_0 := fz_ BK375 0; have hfz16_1 := fz_ BK375 1) | (go_at_call 46; (with_reducible refine (spec_mrRising.calls k _ _ l1 a0_0 t378 _ ?side1 ?side2 A12.out).mono ?_); (case side1 => exact Cl_ (Kd.C_below HR1.out HB.out)); (case side2 => exact HC1.out); rintro e w' ⟨rfl, ⟨nd, rfl⟩⟩))
  go_meet
  case rel => exact ⟨_, (!t378), rs_, H', ⟨by first | omega | exact Nat.le_refl _⟩, ⟨bl_ BK375⟩, ⟨bl_ BK376⟩, ⟨Bl_ HB⟩⟩
 case rest =>
  as_aux_lemma =>
  clear HC3
  try clear c1
  try clear p2
  try clear c4
  try clear c7
  try clear c8
  try clear c8b0
  try clear c8b1
  try clear c9
  try clear c13
  try clear c16
  try clear c17
  try clear hcz10_0
  try clear hcz10_1
  try clear hcz14_0
  try clear hcz14_1
  try clear hcz16_0
  try clear hcz16_1
  try clear hcz18_0
  try clear hcz18_1
  try clear hfz10_0
  try clear hfz10_1
  try clear hfz14_0
  try clear hfz14_1
  try clear hfz16_0
  try clear hfz16_1
  try clear hfz18_0
  try clear hfz18_1
  obtain ⟨kq, x22_2, rfl, HA, HJ2, BK375, BK376, HB⟩ := hcut
  cases kq with
  | zero => exact absurd HA.out (by simp [spec_KeepStarts.j0])
  | succ kj2 =>
   have H := HA.out
   clear HA
   simp only [spec_KeepStarts.j0] at H
   by_cases c20 : x22_2 = true
   ·subst c20
    rw [if_pos rfl] at H
    simp only [Option.some.injEq, Prod.mk.injEq] at H
    obtain ⟨rfl, rfl, rfl⟩ := H
    have hnb21 := NB376_375.out
    have hnc21 := NB375_376.out
    have hcz22_0 : wc.cell? ⟨gb376, 0, none⟩ = some (.int .i64 0) := (blk_cell BK376.out 0).trans rfl
    have hcz22_1 : wc.cell? ⟨gb376, 1, none⟩ = some (.slice none 0 0) := (blk_cell BK376.out 1).trans rfl
    have hfz22_0 := fz_ BK376 0
    have hfz22_1 := fz_ BK376 1
    go_wp2
    refine bodyPost_ret (results_ct rfl _ _ gb376 26 #[.int .i64 0, .slice none 0 0] (0, 0) _ rfl (by (with_reducible repeat (first | refine blk_drewN ?_ _ | refine blk_drew ?_ | refine blk_alloc ?_ _)); refine blk_put (cs := #[.int .i64 0, .slice none 0 0]) ?_ 1 _ rfl; (with_reducible repeat (first | refine blk_drewN ?_ _ | refine blk_drew ?_ | refine blk_alloc ?_ _)); refine blk_put (cs := #[.int .i64 0, .slice none 0 0]) ?_ 0 _ rfl; (with_reducible repeat (first | refine blk_drewN ?_ _ | refine blk_drew ?_ | refine blk_alloc ?_ _)); exact BK376.out) Try.underlying26 rfl (by kernel_rfl)) rfl ?_
    exact ⟨_, re_, by first | exact Kd.R_nil _ _ _ _ _ | exact Kd.N_nil _ _ _ _ _ | exact Kd.V_nil _ _ _ _ _ | exact Kd.Q_nil _ _ _ _ _ | exact Kd.S_nil _ _ _ _ _, Bl_ HB⟩
   replace c20 := Bool.eq_false_iff.mpr c20
   subst c20
   rw [if_neg (show ¬ (false = true) by decide)] at H
   obtain ⟨t379, A23, H⟩ := ob_ H
   (try dsimp only at H)
   have H' := a_ H
   clear H
   have hnb24 := NB375_376.out
   have hnc24 := NB376_375.out
   have hcz25_0 : wc.cell? ⟨gb375, 0, none⟩ = some (.int .i64 a0_0) := (blk_cell BK375.out 0).trans rfl
   have hcz25_1 : wc.cell? ⟨gb375, 1, none⟩ = some (.slice A0_1 l0_1.length c0_1) := (blk_cell BK375.out 1).trans rfl
   have hfz25_0 := fz_ BK375 0
   have hfz25_1 := fz_ BK375 1
   go_wp2_with (first | ((with_reducible refine gate_callee (f := 47) rfl ?_); refine gm_ (some 26) Try.func47 #[.slice A0_1 l0_1.length c0_1] rfl ?_; (with_reducible refine (spec_l1Own.calls _ _ l0_1 t379 _ ?side1 ?side2 A23.out).mono ?_); (case side1 => exact Cl_ (Kd.C_below HR0_1.out HB.out)); (case side2 => exact HC0_1.out); rintro e w26 ⟨v380, rfl, ho0, hb⟩; refine ⟨_, rfl, ?_⟩; have HO381 := a_ (Kd.R_lower ho0 (below_size (Bl_ HB))); replace BK375 := blkB_ BK375 hb; replace BK376 := blkB_ BK376 hb; replace HB := Bs_ HB hb; (try clear hb); (try clear hb2); (try clear hk); (try clear hi); (try clear ho0); have hcz27_0 := cz_ (.int .i64 a0_0) BK375 0; have hcz27_1 := cz_ (.slice A0_1 l0_1.length c0_1) BK375 1; have hfz27_0 := fz_ BK375 0; have hfz27_1 := fz_ BK375 1))
   go_loopg [6, 7] kj2 (fun kq v6 v7 w' => ∃ (x6_2 : List Int) (x7_2 : Int), v7 = .int .i64 x7_2 ∧ Aside0 (spec_KeepStarts.l0 kq l1 x6_2 x7_2 = some (r1, r2, r3)) ∧ Aside0 (kq ≤ kj2) ∧ Aside0 (Kd.R (Kd.int .i64) 3 w' w.heap.size (fun _ => True) v6 x6_2) ∧ Aside0 (w'.heap[gb375]? = some (.cells #[.int .i64 a0_0, (.slice A0_1 l0_1.length c0_1)] 26 (0, 0))) ∧ Aside0 (w'.heap[gb376]? = some (.cells #[.int .i64 0, (.slice none 0 0)] 26 (0, 0))) ∧ Aside0 (Below w.heap.size w w'))
   case atStart => exact ⟨(t379), (wrap64 (a0_0 - 1)), rs_, H', ⟨Nat.le_refl _⟩, ⟨Rl_ HO381.out⟩, ⟨bl_ BK375⟩, ⟨bl_ BK376⟩, ⟨Bl_ HB⟩⟩
   case round =>
    clear H'
    try clear c1
    try clear c2
    try clear p2
    try clear c4
    try clear p6
    try clear c7
    try clear c8
    try clear c8b0
    try clear c8b1
    try clear c9
    try clear c13
    try clear c16
    try clear c17
    try clear c20
    try clear c21
    try clear c24
    try clear hcz10_0
    try clear hcz10_1
    try clear hcz14_0
    try clear hcz14_1
    try clear hcz16_0
    try clear hcz16_1
    try clear hcz18_0
    try clear hcz18_1
    try clear hcz22_0
    try clear hcz22_1
    try clear hcz25_0
    try clear hcz25_1
    try clear hcz27_0
    try clear hcz27_1
    try clear hfz10_0
    try clear hfz10_1
    try clear hfz14_0
    try clear hfz14_1
    try clear hfz16_0
    try clear hfz16_1
    try clear hfz18_0
    try clear hfz18_1
    try clear hfz22_0
    try clear hfz22_1
    try clear hfz25_0
    try clear hfz25_1
    try clear hfz27_0
    try clear hfz27_1
    try clear p2
    obtain ⟨x6_2, x7_2, rfl, HA, HK2, HO_6, BK375, BK376, HB⟩ := hrel
    cases gk with
    | zero => exact absurd HA.out (by simp [spec_KeepStarts.l0])
    | succ k2 =>
     have H := HA.out
     clear HA
     simp only [spec_KeepStarts.l0] at H
     by_cases c28 : x7_2 ≥ 0
     rotate_left
     ·rw [if_neg c28] at H
      have c28b0 : decide (0 ≤ x7_2) = false := decide_eq_false c28
      clear c28
      simp only [Option.some.injEq, Prod.mk.injEq] at H
      obtain ⟨rfl, rfl, rfl⟩ := H
      obtain ⟨Ao34, co34, eo34⟩ := Kd.R_slice HO_6.out
      subst eo34
      have hnb35 := NB376_375.out
      have hnc35 := NB375_376.out
      have hcz36_0 : wr.cell? ⟨gb376, 0, none⟩ = some (.int .i64 0) := (blk_cell BK376.out 0).trans rfl
      have hcz36_1 : wr.cell? ⟨gb376, 1, none⟩ = some (.slice none 0 0) := (blk_cell BK376.out 1).trans rfl
      have hfz36_0 := fz_ BK376 0
      have hfz36_1 := fz_ BK376 1
      go_wp2
      refine bodyPost_ret (results_ct rfl _ _ gb376 26 #[.int .i64 (l1.length : Int), .slice Ao34 x6_2.length co34] (0, 0) _ rfl (by (with_reducible repeat (first | refine blk_drewN ?_ _ | refine blk_drew ?_ | refine blk_alloc ?_ _)); refine blk_put (cs := #[.int .i64 (l1.length : Int), .slice none 0 0]) ?_ 1 _ rfl; (with_reducible repeat (first | refine blk_drewN ?_ _ | refine blk_drew ?_ | refine blk_alloc ?_ _)); refine blk_put (cs := #[.int .i64 0, .slice none 0 0]) ?_ 0 _ rfl; (with_reducible repeat (first | refine blk_drewN ?_ _ | refine blk_drew ?_ | refine blk_alloc ?_ _)); exact BK376.out) Try.underlying26 rfl (by kernel_rfl)) rfl ?_
      exact ⟨_, re_, by (with_reducible repeat (first | apply Kd.R_alloc | apply Kd.R_drewN | apply Kd.R_drew)); exact Kd.R_mono (Kd.R_far (p := ⟨gb376, 1, none⟩) (Kd.R_far (p := ⟨gb376, 0, none⟩) (Kd.R_types HO_6.out BK376.out (by decide)) (fun _ hk => hk.2) (.int .i64 (l1.length : Int))) (fun _ hk => hk.2) (.slice Ao34 x6_2.length co34)) (fun _ hk => trivial), Bl_ HB⟩
     rw [if_pos c28] at H
     have c28b0 : decide (0 ≤ x7_2) = true := decide_eq_true c28
     clear c28
     obtain ⟨t382, A29, H⟩ := ob_ H
     (try dsimp only at H)
     by_cases c30 : t382 = true
     ·subst c30
      rw [if_pos rfl] at H
      have H' := a_ H
      clear H
      go_wp2_with (first | ((with_reducible refine gate_callee (f := 48) rfl ?_); refine gm_ (some 36) Try.func48 #[.slice A1 l1.length c1, .int .i64 x7_2] rfl ?_; (with_reducible refine (spec_l1Has.calls k2 _ _ l1 x7_2 true _ ?side1 ?side2 A29.out).mono ?_); (case side1 => exact Cl_ (Kd.C_below HR1.out HB.out)); (case side2 => exact HC1.out); rintro e w' ⟨rfl, ⟨nd, rfl⟩⟩; refine ⟨_, rfl, ?_⟩))
      go_roundg k2
      case measure => have := HJ2.out; have := HK2.out; omega
      case rel => exact ⟨(x6_2), (wrap64 (x7_2 - 1)), rs_, H', ⟨by have := HJ2.out; have := HK2.out; omega⟩, ⟨Rl_ HO_6.out⟩, ⟨bl_ BK375⟩, ⟨bl_ BK376⟩, ⟨Bl_ HB⟩⟩
     replace c30 := Bool.eq_false_iff.mpr c30
     subst c30
     rw [if_neg (show ¬ (false = true) by decide)] at H
     obtain ⟨t383, A31, H⟩ := ob_ H
     (try dsimp only at H)
     have H' := a_ H
     clear H
     go_wp2_with (first | ((with_reducible refine gate_callee (f := 48) rfl ?_); refine gm_ (some 36) Try.func48 #[.slice A1 l1.length c1, .int .i64 x7_2] rfl ?_; (with_reducible refine (spec_l1Has.calls k2 _ _ l1 x7_2 false _ ?side1 ?side2 A29.out).mono ?_); (case side1 => exact Cl_ (Kd.C_below HR1.out HB.out)); (case side2 => exact HC1.out); rintro e w' ⟨rfl, ⟨nd, rfl⟩⟩; refine ⟨_, rfl, ?_⟩; obtain ⟨Ao32, co32, eo32⟩ := Kd.R_slice HO_6.out; subst eo32) | ((with_reducible refine gate_callee (f := 34) rfl ?_); refine gm_ (some 40) Try.func34 #[.slice Ao32 x6_2.length co32, .int .i64 x7_2] rfl ?_; (with_reducible refine (spec_mrTake.calls k2 _ _ x6_2 x7_2 t383 _ ?side1 ?side2 A31.out).mono ?_); (case side1 => exact Cl_ (Kd.R_reads' HO_6.out).2.2); (case side2 => exact (Kd.R_reads' HO_6.out).2.1); rintro e w33 ⟨v384, rfl, ho0, hb⟩; refine ⟨_, rfl, ?_⟩; have HO385 := a_ (Kd.R_lower (Kd.R_new' ho0 (Kd.R_lt (Rl_ HO_6.out))) (below_size (Bl_ HB))); replace HO_6 := a_ (Kd.R_elder' (Rl_ HO_6.out) (Kd.R_base ho0) hb); replace BK375 := blkB_ BK375 hb; replace BK376 := blkB_ BK376 hb; replace HB := Bs_ HB hb; (try clear hb); (try clear hb2); (try clear hk); (try clear hi); (try clear ho0)))
     go_roundg k2
     case measure => have := HJ2.out; have := HK2.out; omega
     case rel => exact ⟨(t383), (wrap64 (x7_2 - 1)), rs_, H', ⟨by have := HJ2.out; have := HK2.out; omega⟩, ⟨Rl_ (Kd.R_mono HO385.out (fun _ hk => trivial))⟩, ⟨bl_ BK375⟩, ⟨bl_ BK376⟩, ⟨Bl_ HB⟩⟩

/-! ### spec_l1Cur_splitLadder: function 49 -/
mutual
def spec_l1Cur_splitLadder.j0 : Nat → Bool → List Int → Int → Int → Int → List Int → Option (Int × List Int × Int × Int)
 | 0, _, _, _, _, _, _ => none
 | k + 1, x16, x1000, x1001, x1002, x394000, x394001 => if x16 = true then ((spec_l1Cur_pick.f x1000 x1001 x1002 (wrap64 (x394000 - 1))).bind fun bt398 => (spec_l1Cur_splitLadder.l0 k bt398.1 ([] : List Int) x394001 (x394001.length : Int) 0 x1000 bt398.2.1 bt398.2.2 x394000 x394001)) else (some (x394000, x394001, x1001, x1002))
def spec_l1Cur_splitLadder.l0 : Nat → Int → List Int → List Int → Int → Int → List Int → Int → Int → Int → List Int → Option (Int × List Int × Int × Int)
 | 0, _, _, _, _, _, _, _, _, _, _ => none
 | k + 1, x4, x5, x23, x24, x25, x1000, x1001, x1002, x394000, x394001 => if x25 < x24 then (if 0 ≤ x25 then (if x25 < (x23.length : Int) then (if (rd x23 x25) = x4 then (spec_l1Cur_splitLadder.l0 k x4 x5 x23 x24 (wrap64 (x25 + 1)) x1000 x1001 x1002 x394000 x394001) else (if x5.length < 17592186044416 then (spec_l1Cur_splitLadder.l0 k x4 (x5 ++ [rd x23 x25]) x23 x24 (wrap64 (x25 + 1)) x1000 x1001 x1002 x394000 x394001) else (none))) else (none)) else (none)) else (some (x394000, x5, x1001, x1002))
end
def spec_l1Cur_splitLadder.f (k : Nat) (s0_0 : List Int) (s0_1 : Int) (s0_2 : Int) : Option (Int × List Int × Int × Int) := (spec_l1Cur_ladder.f k s0_0 s0_1 s0_2).bind fun bt387 => ((spec_laGood.f k bt387.1 bt387.2.1).bind fun t394 => (if t394 = true then ((spec_l1Cur_one.f s0_0 bt387.2.2.1 bt387.2.2.2 3).bind fun bt395 => (spec_l1Cur_splitLadder.j0 k (!bt395.1) s0_0 bt395.2.1 bt395.2.2 bt387.1 bt387.2.1)) else (spec_l1Cur_splitLadder.j0 k false s0_0 bt387.2.2.1 bt387.2.2.2 bt387.1 bt387.2.1)))
theorem spec_l1Cur_splitLadder.mono_l : ∀ k, (∀ y0 y1 y2 y3 y4 y5, LeO (spec_l1Cur_splitLadder.j0 k y0 y1 y2 y3 y4 y5) (spec_l1Cur_splitLadder.j0 (k + 1) y0 y1 y2 y3 y4 y5)) ∧ (∀ y0 y1 y2 y3 y4 y5 y6 y7 y8 y9, LeO (spec_l1Cur_splitLadder.l0 k y0 y1 y2 y3 y4 y5 y6 y7 y8 y9) (spec_l1Cur_splitLadder.l0 (k + 1) y0 y1 y2 y3 y4 y5 y6 y7 y8 y9))
 | 0 => ⟨fun _ _ _ _ _ _ r h => by simp [spec_l1Cur_splitLadder.j0] at h, fun _ _ _ _ _ _ _ _ _ _ r h => by simp [spec_l1Cur_splitLadder.l0] at h⟩
 | k + 1 => by
  obtain ⟨ih0, ih1⟩ := spec_l1Cur_splitLadder.mono_l k
  refine ⟨?_, ?_⟩
  ·intro y0 y1 y2 y3 y4 y5
   unfold spec_l1Cur_splitLadder.j0
   repeat' first
   | (with_reducible exact ih1 _ _ _ _ _ _ _ _ _ _)
   | (with_reducible exact LeO.refl _)
   | (with_reducible exact LeO.none _)
   | (with_reducible refine LeO.ite ?_ ?_)
   | (with_reducible refine LeO.bind ?_ (fun _ => ?_))
   | exact LeO.none _
   | refine LeO.ite ?_ ?_
   | refine LeO.bind ?_ (fun _ => ?_)
  ·intro y0 y1 y2 y3 y4 y5 y6 y7 y8 y9
   unfold spec_l1Cur_splitLadder.l0
   repeat' first
   | (with_reducible exact ih1 _ _ _ _ _ _ _ _ _ _)
   | (with_reducible exact LeO.refl _)
   | (with_reducible exact LeO.none _)
   | (with_reducible refine LeO.ite ?_ ?_)
   | (with_reducible refine LeO.bind ?_ (fun _ => ?_))
   | exact LeO.none _
   | refine LeO.ite ?_ ?_
   | refine LeO.bind ?_ (fun _ => ?_)
theorem spec_l1Cur_splitLadder.mono : ∀ a0 a1 a2 k, LeO (spec_l1Cur_splitLadder.f k a0 a1 a2) (spec_l1Cur_splitLadder.f (k + 1) a0 a1 a2) := by
 intro a0 a1 a2 k
 obtain ⟨ih0, ih1⟩ := spec_l1Cur_splitLadder.mono_l k
 unfold spec_l1Cur_splitLadder.f
 repeat' first
  | (with_reducible exact ih0 _ _ _ _ _ _)
  | (with_reducible exact spec_l1Cur_ladder.mono _ _ _ _)
  | (with_reducible exact spec_laGood.mono _ _ _)
  | (with_reducible exact LeO.refl _)
  | (with_reducible exact LeO.none _)
  | (with_reducible refine LeO.ite ?_ ?_)
  | (with_reducible refine LeO.bind ?_ (fun _ => ?_))
  | exact LeO.none _
  | refine LeO.ite ?_ ?_
  | refine LeO.bind ?_ (fun _ => ?_)
set_option maxHeartbeats 8000000 in
set_option maxRecDepth 100000 in
theorem spec_l1Cur_splitLadder.calls (k : Nat) (g : Nat) (s0_0 : List Int) (s0_1 : Int) (s0_2 : Int) (r1 : Int) (r2 : List Int) (r3 : Int) (r4 : Int) (w0 w : World) (hI : IsS63 w0 w g s0_0 s0_1 s0_2) (hB : Below w0.heap.size w0 w) (h : spec_l1Cur_splitLadder.f k s0_0 s0_1 s0_2 = some (r1, r2, r3, r4)) :
 Calls Try.prog 49 #[.pointer (some ⟨g, 0, none⟩)] w fun e w' => ∃ v1_ : Value, e = .returned (.agg #[.int .i64 r1, v1_]) ∧ Kd.R (Kd.int .i64) 3 w' w.heap.size (fun _ => True) v1_ r2 ∧ IsS63 w0 w' g s0_0 r3 r4 ∧ Below w0.heap.size w0 w' ∧ KeepBut w w' g none := by
 have hu26 := Try.underlying26
 have HI0 := a_ hI
 have HK := a_ (KeepBut.refl w g none)
 have HL := a_ hB.size
 clear hI
 have HW0 := a_ hB.size
 have HB := a_ hB
 clear hB
 have H : ((spec_l1Cur_ladder.f k s0_0 s0_1 s0_2).bind fun bt387 => ((spec_laGood.f k bt387.1 bt387.2.1).bind fun t394 => (if t394 = true then ((spec_l1Cur_one.f s0_0 bt387.2.2.1 bt387.2.2.2 3).bind fun bt395 => (spec_l1Cur_splitLadder.j0 k (!bt395.1) s0_0 bt395.2.1 bt395.2.2 bt387.1 bt387.2.1)) else (spec_l1Cur_splitLadder.j0 k false s0_0 bt387.2.2.1 bt387.2.2.2 bt387.1 bt387.2.1)))) = some (r1, r2, r3, r4) := h
 clear h
 obtain ⟨⟨t387, t388, t391, t392⟩, A2, H⟩ := ob_ H
 (try dsimp only at H)
 have HC3 := a_ H
 clear H
 go_enter Try.func49, Try.ntmps49
 go_upto_region 2 with (first | ((with_reducible refine gate_dst (N := 2) rfl ?_); refine bx_ #[.int .i64 0, .slice none 0 0] 26 ?_ 2; intro gb386 hg w4 hbox hb; replace HB := a_ (below_step (by repeat (first | (with_reducible first | exact HB.out | apply below_alloc | apply pw_below_drewN | apply below_drew1 | refine below_set ?_ (IsS63.ge HI0.out)) | exact HB.out)) hb); have BK386 := a_ (hbox); have GW386 := a_ ((by rw [hg]; exact (keep_size (w := w) (g := g) (row := none) (by repeat (first | (with_reducible first | exact HK.out | apply KeepBut.set_ | apply keep_drewN | apply keep_drew | apply keep_alloc) | exact HK.out))) : w.heap.size ≤ gb386)); have GE386 := a_ ((Nat.le_trans HW0.out (by rw [hg]; exact (keep_size (w := w) (g := g) (row := none) (by repeat (first | (with_reducible first | exact HK.out | apply KeepBut.set_ | apply keep_drewN | apply keep_drew | apply keep_alloc) | exact HK.out))) : w.heap.size ≤ gb386) : w0.heap.size ≤ gb386)); replace HK := a_ (KeepBut.trans (by repeat (first | (with_reducible first | exact HK.out | apply KeepBut.set_ | apply keep_drewN | apply keep_drew | apply keep_alloc) | exact HK.out)) (KeepBut.of_below hb g none) (.inl rfl)); have NB0_386 := a_ ((by rw [hg]; exact Nat.ne_of_lt (IsS63.lt (show IsS63 w0 _ g s0_0 s0_1 s0_2 from by repeat (first | (with_reducible first | exact HI0.out | apply IsS63.alloc | apply IsS63.drewN | apply IsS63.drew | apply IsS63.set_1 | apply IsS63.set_2) | exact HI0.out))) : g ≠ gb386)); have NB386_0 := a_ ((by rw [hg]; exact Nat.ne_of_gt (IsS63.lt (show IsS63 w0 _ g s0_0 s0_1 s0_2 from by repeat (first | (with_reducible first | exact HI0.out | apply IsS63.alloc | apply IsS63.drewN | apply IsS63.drew | apply IsS63.set_1 | apply IsS63.set_2) | exact HI0.out))) : gb386 ≠ g)); replace HI0 := a_ (IsS63.below (by repeat (first | (with_reducible first | exact HI0.out | apply IsS63.alloc | apply IsS63.drewN | apply IsS63.drew | apply IsS63.set_1 | apply IsS63.set_2) | exact HI0.out)) hb); clear hb hbox hg) | ((with_reducible refine gate_callee (f := 43) rfl ?_); refine gm_ (some 9) Try.func43 #[.pointer (some ⟨g, 0, none⟩)] rfl ?_; (with_reducible refine (spec_l1Cur_ladder.calls k g s0_0 s0_1 s0_2 t387 t388 t391 t392 w0 _ ?side1 ?side2 A2.out).mono ?_); (case side1 => repeat (first | (with_reducible first | exact HI0.out | apply IsS63.alloc | apply IsS63.drewN | apply IsS63.drew | apply IsS63.set_1 | apply IsS63.set_2 | refine IsS63.far ?_ NB0_386.out _) | exact HI0.out)); (case side2 => repeat (first | (with_reducible first | exact HB.out | apply below_alloc | apply pw_below_drewN | apply below_drew1 | refine below_set ?_ (IsS63.ge HI0.out) | refine below_set ?_ GE386.out) | exact HB.out)); rintro e w5 ⟨v389, rfl, ho0, hi, hb, hk⟩; refine ⟨_, rfl, ?_⟩; replace BK386 := a_ (KeepBut.blk hk (g' := gb386) (o := .cells #[.int .i64 0, .slice none 0 0] 26 (0, 0)) (bl_ BK386) NB386_0.out (by simp)); have HO390 := a_ (Kd.R_lower ho0 (keep_size (w := w) (g := g) (row := none) (by repeat (first | (with_reducible first | exact HK.out | apply KeepBut.set_ | apply keep_drewN | apply keep_drew | apply keep_alloc | refine keep_far ?_ GW386.out _) | exact HK.out)))); replace HK := a_ (KeepBut.trans (by repeat (first | (with_reducible first | exact HK.out | apply KeepBut.set_ | apply keep_drewN | apply keep_drew | apply keep_alloc | refine keep_far ?_ GW386.out _) | exact HK.out)) hk (.inl rfl)); replace HB := a_ (hb); replace HI0 := a_ (hi); (try clear hb); (try clear hb2); (try clear hk); (try clear hi); (try clear ho0)) | ((with_reducible refine gate_dst (N := 3) rfl ?_); refine bx_ #[.int .i64 0, .slice none 0 0] 26 ?_ 3; intro gb393 hg w6 hbox hb; replace HO390 := a_ (Kd.R_below (Rl_ HO390.out) hb); replace HB := a_ (below_step (by repeat (first | (with_reducible first | exact HB.out | apply below_alloc | apply pw_below_drewN | apply below_drew1 | refine below_set ?_ (IsS63.ge HI0.out) | refine below_set ?_ GE386.out) | exact HB.out)) hb); have BK393 := a_ (hbox); have GW393 := a_ ((by rw [hg]; exact (keep_size (w := w) (g := g) (row := none) (by repeat (first | (with_reducible first | exact HK.out | apply KeepBut.set_ | apply keep_drewN | apply keep_drew | apply keep_alloc | refine keep_far ?_ GW386.out _) | exact HK.out))) : w.heap.size ≤ gb393)); have GE393 := a_ ((Nat.le_trans HW0.out (by rw [hg]; exact (keep_size (w := w) (g := g) (row := none) (by repeat (first | (with_reducible first | exact HK.out | apply KeepBut.set_ | apply keep_drewN | apply keep_drew | apply keep_alloc | refine keep_far ?_ GW386.out _) | exact HK.out))) : w.heap.size ≤ gb393) : w0.heap.size ≤ gb393)); replace HK := a_ (KeepBut.trans (by repeat (first | (with_reducible first | exact HK.out | apply KeepBut.set_ | apply keep_drewN | apply keep_drew | apply keep_alloc | refine keep_far ?_ GW386.out _) | exact HK.out)) (KeepBut.of_below hb g none) (.inl rfl)); have NB386_393 := nbl_ BK386 hg; have NB393_386 := nbg_ BK386 hg; replace BK386 := blkB_ BK386 hb; have NB0_393 := a_ ((by rw [hg]; exact Nat.ne_of_lt (IsS63.lt (show IsS63 w0 _ g s0_0 t391 t392 from by repeat (first | (with_reducible first | exact HI0.out | apply IsS63.alloc | apply IsS63.drewN | apply IsS63.drew | apply IsS63.set_1 | apply IsS63.set_2 | refine IsS63.far ?_ NB0_386.out _) | exact HI0.out))) : g ≠ gb393)); have NB393_0 := a_ ((by rw [hg]; exact Nat.ne_of_gt (IsS63.lt (show IsS63 w0 _ g s0_0 t391 t392 from by repeat (first | (with_reducible first | exact HI0.out | apply IsS63.alloc | apply IsS63.drewN | apply IsS63.drew | apply IsS63.set_1 | apply IsS63.set_2 | refine IsS63.far ?_ NB0_386.out _) | exact HI0.out))) : gb393 ≠ g)); replace HI0 := a_ (IsS63.below (by repeat (first | (with_reducible first | exact HI0.out | apply IsS63.alloc | apply IsS63.drewN | apply IsS63.drew | apply IsS63.set_1 | apply IsS63.set_2 | refine IsS63.far ?_ NB0_386.out _) | exact HI0.out)) hb); clear hb hbox hg; have hnb7 := NB393_386.out; have hnc7 := NB386_393.out; have hnb8 := NB393_0.out; have hnc8 := NB0_393.out; have hcz9_0 := cz_ (.int .i64 0) BK393 0; have hcz9_1 := cz_ (.slice none 0 0) BK393 1; have hfz9_0 := fz_ BK393 0; have hfz9_1 := fz_ BK393 1; obtain ⟨Ao10, co10, eo10⟩ := Kd.R_slice HO390.out; subst eo10))
 (try simp only [Act.put, List.setIfInBounds_toArray, List.set_cons_zero, List.set_cons_succ])
 go_cut [16] (fun v16 wc => ∃ (kq : Nat) (x16_2 : Bool) (x1001_2 : Int) (x1002_2 : Int), v16 = .bool x16_2 ∧ Aside0 (spec_l1Cur_splitLadder.j0 kq x16_2 s0_0 x1001_2 x1002_2 t387 t388 = some (r1, r2, r3, r4)) ∧ Aside0 (kq ≤ k) ∧ Aside0 (Kd.R (Kd.int .i64) 3 wc w.heap.size (fun _ => True) (.slice Ao10 t388.length co10) t388) ∧ Aside0 (wc.heap[gb386]? = some (.cells #[.int .i64 0, (.slice none 0 0)] 26 (0, 0))) ∧ Aside0 (wc.heap[gb393]? = some (.cells #[.int .i64 t387, (.slice Ao10 t388.length co10)] 26 (0, 0))) ∧ Aside0 (IsS63 w0 wc g s0_0 x1001_2 x1002_2) ∧ Aside0 (KeepBut w wc g none) ∧ Aside0 (Below w0.heap.size w0 wc))
 case first =>
  have H := HC3.out
  clear HC3
  obtain ⟨t394, A11, H⟩ := ob_ H
  (try dsimp only at H)
  by_cases c12 : t394 = true
  rotate_left
  ·replace c12 := Bool.eq_false_iff.mpr c12
   subst c12
   rw [if_neg (show ¬ (false = true) by decide)] at H
   have H' := a_ H
   clear H
   have hnb19 := NB393_386.out
   have hnc19 := NB386_393.out
   have hnb20 := NB393_0.out
   have hnc20 := NB0_393.out
   have hcz21_0 := cz_ (.int .i64 0) BK393 0
   have hcz21_1 := cz_ (.slice none 0 0) BK393 1
   have hfz21_0 := fz_ BK393 0
   have hfz21_1 := fz_ BK393 1
   go_wp2_with (first | ((with_reducible refine gate_callee (f := 45) rfl ?_); refine gm_ (some 11) Try.func45 #[.agg #[.int .i64 t387, .slice Ao10 t388.length co10]] rfl ?_; (with_reducible refine (spec_laGood.calls k t387 _ _ t388 false _ ?side1 ?side2 A11.out).mono ?_); (case side1 => refine (Kd.R_reads' (e := 3) (base := w.heap.size) (ok := fun k_ => True) (n := t388.length) (c := co10) ?_).2.2; exact (Rl_ (Rf2_ HO390.out BK393.out (by decide) (.int .i64 t387) (.slice Ao10 t388.length co10)))); (case side2 => exact (Kd.R_reads' HO390.out).2.1); rintro e w22 ⟨rfl, hb⟩; refine ⟨_, rfl, ?_⟩; replace HO390 := a_ (Kd.R_below (Rl_ (Rf2_ HO390.out BK393.out (by decide) (.int .i64 t387) (.slice Ao10 t388.length co10))) hb); replace BK386 := blkF_ BK386 NB386_393 hb; replace BK393 := a_ (blk_below (g := gb393) (o := .cells #[.int .i64 t387, .slice Ao10 t388.length co10] 26 (0, 0)) (by (with_reducible repeat (first | refine blk_drewN ?_ _ | refine blk_drew ?_ | refine blk_alloc ?_ _)); refine blk_put (cs := #[.int .i64 t387, .slice none 0 0]) ?_ 1 _ rfl; (with_reducible repeat (first | refine blk_drewN ?_ _ | refine blk_drew ?_ | refine blk_alloc ?_ _)); refine blk_put (cs := #[.int .i64 0, .slice none 0 0]) ?_ 0 _ rfl; (with_reducible repeat (first | refine blk_drewN ?_ _ | refine blk_drew ?_ | refine blk_alloc ?_ _)); exact BK393.out) hb); replace HK := a_ (KeepBut.trans (by repeat (first | (with_reducible first | exact HK.out | apply KeepBut.set_ | apply keep_drewN | apply keep_drew | apply keep_alloc | refine keep_far ?_ GW386.out _ | refine keep_far ?_ GW393.out _) | exact HK.out)) (KeepBut.of_below hb g none) (.inl rfl)); replace HB := a_ (below_step (by repeat (first | (with_reducible first | exact HB.out | apply below_alloc | apply pw_below_drewN | apply below_drew1 | refine below_set ?_ (IsS63.ge HI0.out) | refine below_set ?_ GE386.out | refine below_set ?_ GE393.out) | exact HB.out)) hb); replace HI0 := a_ (IsS63.below (show IsS63 w0 ((w6.setCell ⟨gb393, 0, none⟩ (.int .i64 t387)).setCell ⟨gb393, 1, none⟩ (.slice Ao10 t388.length co10)) g s0_0 t391 t392 from by repeat (first | (with_reducible first | exact HI0.out | apply IsS63.alloc | apply IsS63.drewN | apply IsS63.drew | apply IsS63.set_1 | apply IsS63.set_2 | refine IsS63.far ?_ NB0_386.out _ | refine IsS63.far ?_ NB0_393.out _) | exact HI0.out)) hb); (try clear hb); (try clear hb2); (try clear hk); (try clear hi)))
   go_meet
   case rel => exact ⟨_, (false), (t391), (t392), rs_, H', ⟨by first | omega | exact Nat.le_refl _⟩, ⟨Rl_ HO390.out⟩, ⟨bl_ BK386⟩, ⟨bl_ BK393⟩, ⟨by repeat (first | (with_reducible first | exact HI0.out | apply IsS63.alloc | apply IsS63.drewN | apply IsS63.drew | apply IsS63.set_1 | apply IsS63.set_2 | refine IsS63.far ?_ NB0_386.out _ | refine IsS63.far ?_ NB0_393.out _) | exact HI0.out)⟩, ⟨by repeat (first | (with_reducible first | exact HK.out | apply KeepBut.set_ | apply keep_drewN | apply keep_drew | apply keep_alloc | refine keep_far ?_ GW386.out _ | refine keep_far ?_ GW393.out _) | exact HK.out)⟩, ⟨by repeat (first | (with_reducible first | exact HB.out | apply below_alloc | apply pw_below_drewN | apply below_drew1 | refine below_set ?_ (IsS63.ge HI0.out) | refine below_set ?_ GE386.out | refine below_set ?_ GE393.out) | exact HB.out)⟩⟩
  subst c12
  rw [if_pos rfl] at H
  obtain ⟨⟨t395, t396, t397⟩, A13, H⟩ := ob_ H
  (try dsimp only at H)
  have H' := a_ H
  clear H
  have hnb14 := NB393_386.out
  have hnc14 := NB386_393.out
  have hnb15 := NB393_0.out
  have hnc15 := NB0_393.out
  have hcz16_0 := cz_ (.int .i64 0) BK393 0
  have hcz16_1 := cz_ (.slice none 0 0) BK393 1
  have hfz16_0 := fz_ BK393 0
  have hfz16_1 := fz_ BK393 1
  go_wp2_with (first | ((with_reducible refine gate_callee (f := 45) rfl ?_); refine gm_ (some 11) Try.func45 #[.agg #[.int .i64 t387, .slice Ao10 t388.length co10]] rfl ?_; (with_reducible refine (spec_laGood.calls k t387 _ _ t388 true _ ?side1 ?side2 A11.out).mono ?_); (case side1 => refine (Kd.R_reads' (e := 3) (base := w.heap.size) (ok := fun k_ => True) (n := t388.length) (c := co10) ?_).2.2; exact (Rl_ (Rf2_ HO390.out BK393.out (by decide) (.int .i64 t387) (.slice Ao10 t388.length co10)))); (case side2 => exact (Kd.R_reads' HO390.out).2.1); rintro e w17 ⟨rfl, hb⟩; refine ⟨_, rfl, ?_⟩; replace HO390 := a_ (Kd.R_below (Rl_ (Rf2_ HO390.out BK393.out (by decide) (.int .i64 t387) (.slice Ao10 t388.length co10))) hb); replace BK386 := blkF_ BK386 NB386_393 hb; replace BK393 := a_ (blk_below (g := gb393) (o := .cells #[.int .i64 t387, .slice Ao10 t388.length co10] 26 (0, 0)) (by (with_reducible repeat (first | refine blk_drewN ?_ _ | refine blk_drew ?_ | refine blk_alloc ?_ _)); refine blk_put (cs := #[.int .i64 t387, .slice none 0 0]) ?_ 1 _ rfl; (with_reducible repeat (first | refine blk_drewN ?_ _ | refine blk_drew ?_ | refine blk_alloc ?_ _)); refine blk_put (cs := #[.int .i64 0, .slice none 0 0]) ?_ 0 _ rfl; (with_reducible repeat (first | refine blk_drewN ?_ _ | refine blk_drew ?_ | refine blk_alloc ?_ _)); exact BK393.out) hb); replace HK := a_ (KeepBut.trans (by repeat (first | (with_reducible first | exact HK.out | apply KeepBut.set_ | apply keep_drewN | apply keep_drew | apply keep_alloc | refine keep_far ?_ GW386.out _ | refine keep_far ?_ GW393.out _) | exact HK.out)) (KeepBut.of_below hb g none) (.inl rfl)); replace HB := a_ (below_step (by repeat (first | (with_reducible first | exact HB.out | apply below_alloc | apply pw_below_drewN | apply below_drew1 | refine below_set ?_ (IsS63.ge HI0.out) | refine below_set ?_ GE386.out | refine below_set ?_ GE393.out) | exact HB.out)) hb); replace HI0 := a_ (IsS63.below (show IsS63 w0 ((w6.setCell ⟨gb393, 0, none⟩ (.int .i64 t387)).setCell ⟨gb393, 1, none⟩ (.slice Ao10 t388.length co10)) g s0_0 t391 t392 from by repeat (first | (with_reducible first | exact HI0.out | apply IsS63.alloc | apply IsS63.drewN | apply IsS63.drew | apply IsS63.set_1 | apply IsS63.set_2 | refine IsS63.far ?_ NB0_386.out _ | refine IsS63.far ?_ NB0_393.out _) | exact HI0.out)) hb); (try clear hb); (try clear hb2); (try clear hk); (try clear hi)) | (go_at_call 60; (with_reducible refine (spec_l1Cur_one.calls g s0_0 t391 t392 3 t395 t396 t397 w0 _ ?side1 ?side2 A13.out).mono ?_); (case side1 => repeat (first | (with_reducible first | exact HI0.out | apply IsS63.alloc | apply IsS63.drewN | apply IsS63.drew | apply IsS63.set_1 | apply IsS63.set_2 | refine IsS63.far ?_ NB0_386.out _ | refine IsS63.far ?_ NB0_393.out _) | exact HI0.out)); (case side2 => repeat (first | (with_reducible first | exact HB.out | apply below_alloc | apply pw_below_drewN | apply below_drew1 | refine below_set ?_ (IsS63.ge HI0.out) | refine below_set ?_ GE386.out | refine below_set ?_ GE393.out) | exact HB.out)); rintro e w18 ⟨rfl, hi, hb, hk⟩; replace BK386 := a_ (KeepBut.blk hk (g' := gb386) (o := .cells #[.int .i64 0, .slice none 0 0] 26 (0, 0)) (bl_ BK386) NB386_0.out (by simp)); replace HO390 := a_ (Kd.R_mono (Kd.R_keep (IsS63.apart (show IsS63 w0 _ g s0_0 t391 t392 from by repeat (first | (with_reducible first | exact HI0.out | apply IsS63.alloc | apply IsS63.drewN | apply IsS63.drew | apply IsS63.set_1 | apply IsS63.set_2 | refine IsS63.far ?_ NB0_386.out _ | refine IsS63.far ?_ NB0_393.out _) | exact HI0.out)) (Rl_ HO390.out) (by decide)) hk (fun _ h => h.2)) (fun _ h => h.1)); replace BK393 := a_ (KeepBut.blk hk (g' := gb393) (o := .cells #[.int .i64 t387, .slice Ao10 t388.length co10] 26 (0, 0)) (bl_ BK393) NB393_0.out (by simp)); replace HK := a_ (KeepBut.trans (by repeat (first | (with_reducible first | exact HK.out | apply KeepBut.set_ | apply keep_drewN | apply keep_drew | apply keep_alloc | refine keep_far ?_ GW386.out _ | refine keep_far ?_ GW393.out _) | exact HK.out)) hk (.inl rfl)); replace HB := a_ (hb); replace HI0 := a_ (hi); (try clear hb); (try clear hb2); (try clear hk); (try clear hi)))
  go_meet
  case rel => exact ⟨_, (!t395), (t396), (t397), rs_, H', ⟨by first | omega | exact Nat.le_refl _⟩, ⟨Rl_ HO390.out⟩, ⟨bl_ BK386⟩, ⟨bl_ BK393⟩, ⟨by repeat (first | (with_reducible first | exact HI0.out | apply IsS63.alloc | apply IsS63.drewN | apply IsS63.drew | apply IsS63.set_1 | apply IsS63.set_2 | refine IsS63.far ?_ NB0_386.out _ | refine IsS63.far ?_ NB0_393.out _) | exact HI0.out)⟩, ⟨by repeat (first | (with_reducible first | exact HK.out | apply KeepBut.set_ | apply keep_drewN | apply keep_drew | apply keep_alloc | refine keep_far ?_ GW386.out _ | refine keep_far ?_ GW393.out _) | exact HK.out)⟩, ⟨by repeat (first | (with_reducible first | exact HB.out | apply below_alloc | apply pw_below_drewN | apply below_drew1 | refine below_set ?_ (IsS63.ge HI0.out) | refine below_set ?_ GE386.out | refine below_set ?_ GE393.out) | exact HB.out)⟩⟩
 case rest =>
  as_aux_lemma =>
  clear HC3
  try clear c1
  try clear c2
  try clear p2
  try clear c4
  try clear c7
  try clear c8
  try clear c12
  try clear c14
  try clear c15
  try clear c19
  try clear c20
  try clear hcz16_0
  try clear hcz16_1
  try clear hcz21_0
  try clear hcz21_1
  try clear hcz9_0
  try clear hcz9_1
  try clear hfz16_0
  try clear hfz16_1
  try clear hfz21_0
  try clear hfz21_1
  try clear hfz9_0
  try clear hfz9_1
  obtain ⟨kq, x16_2, x1001_2, x1002_2, rfl, HA, HJ2, HO_394001, BK386, BK393, HI0, HK, HB⟩ := hcut
  cases kq with
  | zero => exact absurd HA.out (by simp [spec_l1Cur_splitLadder.j0])
  | succ kj2 =>
   have H := HA.out
   clear HA
   simp only [spec_l1Cur_splitLadder.j0] at H
   by_cases c23 : x16_2 = true
   rotate_left
   ·replace c23 := Bool.eq_false_iff.mpr c23
    subst c23
    rw [if_neg (show ¬ (false = true) by decide)] at H
    simp only [Option.some.injEq, Prod.mk.injEq] at H
    obtain ⟨rfl, rfl, rfl, rfl⟩ := H
    have hnb42 := NB393_386.out
    have hnc42 := NB386_393.out
    have hnb43 := NB393_0.out
    have hnc43 := NB0_393.out
    have hcz44_0 : wc.cell? ⟨gb393, 0, none⟩ = some (.int .i64 t387) := (blk_cell BK393.out 0).trans rfl
    have hcz44_1 : wc.cell? ⟨gb393, 1, none⟩ = some (.slice Ao10 t388.length co10) := (blk_cell BK393.out 1).trans rfl
    have hfz44_0 := fz_ BK393 0
    have hfz44_1 := fz_ BK393 1
    have hnb45 := NB386_0.out
    have hnc45 := NB0_386.out
    have hcz46_0 : wc.cell? ⟨gb386, 0, none⟩ = some (.int .i64 0) := (blk_cell BK386.out 0).trans rfl
    have hcz46_1 : wc.cell? ⟨gb386, 1, none⟩ = some (.slice none 0 0) := (blk_cell BK386.out 1).trans rfl
    have hfz46_0 := fz_ BK386 0
    have hfz46_1 := fz_ BK386 1
    go_wp2
    refine bodyPost_ret (results_cell_row rfl _ _ gb386 26 #[.int .i64 t387, .slice Ao10 t388.length co10] (0, 0) _ rfl (by (with_reducible repeat (first | refine blk_drewN ?_ _ | refine blk_drew ?_ | refine blk_alloc ?_ _)); refine blk_put (cs := #[.int .i64 t387, .slice none 0 0]) ?_ 1 _ rfl; (with_reducible repeat (first | refine blk_drewN ?_ _ | refine blk_drew ?_ | refine blk_alloc ?_ _)); refine blk_put (cs := #[.int .i64 0, .slice none 0 0]) ?_ 0 _ rfl; (with_reducible repeat (first | refine blk_drewN ?_ _ | refine blk_drew ?_ | refine blk_alloc ?_ _)); exact BK386.out) Try.underlying26 rfl (by kernel_rfl)) rfl ?_
    exact ⟨_, re_, by (with_reducible repeat (first | apply Kd.R_alloc | apply Kd.R_drewN | apply Kd.R_drew)); exact Kd.R_mono (Kd.R_far (p := ⟨gb386, 1, none⟩) (Kd.R_far (p := ⟨gb386, 0, none⟩) (Kd.R_types HO_394001.out BK386.out (by decide)) (fun _ hk => hk.2) (.int .i64 t387)) (fun _ hk => hk.2) (.slice Ao10 t388.length co10)) (fun _ hk => trivial), by repeat (first | (with_reducible first | exact HI0.out | apply IsS63.alloc | apply IsS63.drewN | apply IsS63.drew | apply IsS63.set_1 | apply IsS63.set_2 | refine IsS63.far ?_ NB0_386.out _ | refine IsS63.far ?_ NB0_393.out _) | exact HI0.out), by repeat (first | (with_reducible first | exact HB.out | apply below_alloc | apply pw_below_drewN | apply below_drew1 | refine below_set ?_ (IsS63.ge HI0.out) | refine below_set ?_ GE386.out | refine below_set ?_ GE393.out) | exact HB.out), by repeat (first | (with_reducible first | exact HK.out | apply KeepBut.set_ | apply keep_drewN | apply keep_drew | apply keep_alloc | refine keep_far ?_ GW386.out _ | refine keep_far ?_ GW393.out _) | exact HK.out)⟩
   subst c23
   rw [if_pos rfl] at H
   obtain ⟨⟨t398, t399, t400⟩, A24, H⟩ := ob_ H
   (try dsimp only at H)
   have H' := a_ H
   clear H
   have hnb25 := NB393_386.out
   have hnc25 := NB386_393.out
   have hnb26 := NB393_0.out
   have hnc26 := NB0_393.out
   have hcz27_0 : wc.cell? ⟨gb393, 0, none⟩ = some (.int .i64 t387) := (blk_cell BK393.out 0).trans rfl
   have hcz27_1 : wc.cell? ⟨gb393, 1, none⟩ = some (.slice Ao10 t388.length co10) := (blk_cell BK393.out 1).trans rfl
   have hfz27_0 := fz_ BK393 0
   have hfz27_1 := fz_ BK393 1
   go_wp2_with (first | ((with_reducible refine gate_callee (f := 50) rfl ?_); refine gm_ (some 21) Try.func50 #[.pointer (some ⟨g, 0, none⟩), .int .i64 (wrap64 (t387 - 1))] rfl ?_; (with_reducible refine (spec_l1Cur_pick.calls g s0_0 x1001_2 x1002_2 (wrap64 (t387 - 1)) t398 t399 t400 w0 _ ?side1 ?side2 A24.out).mono ?_); (case side1 => repeat (first | (with_reducible first | exact HI0.out | apply IsS63.alloc | apply IsS63.drewN | apply IsS63.drew | apply IsS63.set_1 | apply IsS63.set_2 | refine IsS63.far ?_ NB0_386.out _ | refine IsS63.far ?_ NB0_393.out _) | exact HI0.out)); (case side2 => repeat (first | (with_reducible first | exact HB.out | apply below_alloc | apply pw_below_drewN | apply below_drew1 | refine below_set ?_ (IsS63.ge HI0.out) | refine below_set ?_ GE386.out | refine below_set ?_ GE393.out) | exact HB.out)); rintro e w28 ⟨rfl, hi, hb, hk⟩; refine ⟨_, rfl, ?_⟩; replace HO_394001 := a_ (Kd.R_mono (Kd.R_keep (IsS63.apart (show IsS63 w0 _ g s0_0 x1001_2 x1002_2 from by repeat (first | (with_reducible first | exact HI0.out | apply IsS63.alloc | apply IsS63.drewN | apply IsS63.drew | apply IsS63.set_1 | apply IsS63.set_2 | refine IsS63.far ?_ NB0_386.out _ | refine IsS63.far ?_ NB0_393.out _) | exact HI0.out)) (Rl_ HO_394001.out) (by decide)) hk (fun _ h => h.2)) (fun _ h => h.1)); replace BK386 := a_ (KeepBut.blk hk (g' := gb386) (o := .cells #[.int .i64 0, .slice none 0 0] 26 (0, 0)) (bl_ BK386) NB386_0.out (by simp)); replace BK393 := a_ (KeepBut.blk hk (g' := gb393) (o := .cells #[.int .i64 t387, .slice Ao10 t388.length co10] 26 (0, 0)) (bl_ BK393) NB393_0.out (by simp)); replace HK := a_ (KeepBut.trans (by repeat (first | (with_reducible first | exact HK.out | apply KeepBut.set_ | apply keep_drewN | apply keep_drew | apply keep_alloc | refine keep_far ?_ GW386.out _ | refine keep_far ?_ GW393.out _) | exact HK.out)) hk (.inl rfl)); replace HB := a_ (hb); replace HI0 := a_ (hi); (try clear hb); (try clear hb2); (try clear hk); (try clear hi); have hcz29_0 := cz_ (.int .i64 t387) BK393 0; have hcz29_1 := cz_ (.slice Ao10 t388.length co10) BK393 1; have hfz29_0 := fz_ BK393 0; have hfz29_1 := fz_ BK393 1))
   go_loopg [5, 25] kj2 (fun kq v5 v25 w' => ∃ (x5_2 : List Int) (x25_2 : Int), v25 = .int .i64 x25_2 ∧ Aside0 (spec_l1Cur_splitLadder.l0 kq t398 x5_2 t388 (t388.length : Int) x25_2 s0_0 t399 t400 t387 t388 = some (r1, r2, r3, r4)) ∧ Aside0 (kq ≤ kj2) ∧ Aside0 (Kd.R (Kd.int .i64) 3 w' w.heap.size (fun k_ => some k_ ≠ ((.slice Ao10 t388.length co10) : Value).ownBlock ∧ some k_ ≠ ((.slice Ao10 t388.length co10) : Value).ownBlock) v5 x5_2) ∧ Aside0 (Kd.R (Kd.int .i64) 3 w' w.heap.size (fun k_ => some k_ ≠ (v5 : Value).ownBlock) (.slice Ao10 t388.length co10) t388) ∧ Aside0 (Kd.R (Kd.int .i64) 3 w' w.heap.size (fun k_ => some k_ ≠ (v5 : Value).ownBlock) (.slice Ao10 t388.length co10) t388) ∧ Aside0 (w'.heap[gb386]? = some (.cells #[.int .i64 0, (.slice none 0 0)] 26 (0, 0))) ∧ Aside0 (w'.heap[gb393]? = some (.cells #[.int .i64 t387, (.slice Ao10 t388.length co10)] 26 (0, 0))) ∧ Aside0 (IsS63 w0 w' g s0_0 t399 t400) ∧ Aside0 (KeepBut w w' g none) ∧ Aside0 (Below w0.heap.size w0 w'))
   case atStart => exact ⟨(([] : List Int)), (0), rs_, H', ⟨Nat.le_refl _⟩, ⟨by first | exact Kd.R_nil _ _ _ _ _ | exact Kd.N_nil _ _ _ _ _ | exact Kd.V_nil _ _ _ _ _ | exact Kd.Q_nil _ _ _ _ _ | exact Kd.S_nil _ _ _ _ _⟩, ⟨Rl_ (Kd.R_mono HO_394001.out (fun _ hk => (by simp [Value.ownBlock])))⟩, ⟨Rl_ (Kd.R_mono HO_394001.out (fun _ hk => (by simp [Value.ownBlock])))⟩, ⟨bl_ BK386⟩, ⟨bl_ BK393⟩, ⟨by repeat (first | (with_reducible first | exact HI0.out | apply IsS63.alloc | apply IsS63.drewN | apply IsS63.drew | apply IsS63.set_1 | apply IsS63.set_2 | refine IsS63.far ?_ NB0_386.out _ | refine IsS63.far ?_ NB0_393.out _) | exact HI0.out)⟩, ⟨by repeat (first | (with_reducible first | exact HK.out | apply KeepBut.set_ | apply keep_drewN | apply keep_drew | apply keep_alloc | refine keep_far ?_ GW386.out _ | refine keep_far ?_ GW393.out _) | exact HK.out)⟩, ⟨by repeat (first | (with_reducible first | exact HB.out | apply below_alloc | apply pw_below_drewN | apply below_drew1 | refine below_set ?_ (IsS63.ge HI0.out) | refine below_set ?_ GE386.out | refine below_set ?_ GE393.out) | exact HB.out)⟩⟩
   case round =>
    clear H'
    try clear c1
    try clear c2
    try clear p2
    try clear c4
    try clear c5
    try clear p6
    try clear c7
    try clear c8
    try clear c12
    try clear c14
    try clear c15
    try clear c19
    try clear c20
    try clear c23
    try clear c25
    try clear c26
    try clear hcz16_0
    try clear hcz16_1
    try clear hcz21_0
    try clear hcz21_1
    try clear hcz27_0
    try clear hcz27_1
    try clear hcz29_0
    try clear hcz29_1
    try clear hcz9_0
    try clear hcz9_1
    try clear hfz16_0
    try clear hfz16_1
    try clear hfz21_0
    try clear hfz21_1
    try clear hfz27_0
    try clear hfz27_1
    try clear hfz29_0
    try clear hfz29_1
    try clear hfz9_0
    try clear hfz9_1
    try clear p2
    obtain ⟨x5_2, x25_2, rfl, HA, HK2, HO_5, HO_23, HO_394001, BK386, BK393, HI0, HK, HB⟩ := hrel
    cases gk with
    | zero => exact absurd HA.out (by simp [spec_l1Cur_splitLadder.l0])
    | succ k2 =>
     have H := HA.out
     clear HA
     simp only [spec_l1Cur_splitLadder.l0] at H
     by_cases c30 : x25_2 < (t388.length : Int)
     rotate_left
     ·rw [if_neg c30] at H
      have c30b0 : decide (x25_2 < (t388.length : Int)) = false := decide_eq_false c30
      clear c30
      simp only [Option.some.injEq, Prod.mk.injEq] at H
      obtain ⟨rfl, rfl, rfl, rfl⟩ := H
      have hnb36 := NB393_386.out
      have hnc36 := NB386_393.out
      have hnb37 := NB393_0.out
      have hnc37 := NB0_393.out
      have hcz38_0 : wr.cell? ⟨gb393, 0, none⟩ = some (.int .i64 t387) := (blk_cell BK393.out 0).trans rfl
      have hcz38_1 : wr.cell? ⟨gb393, 1, none⟩ = some (.slice Ao10 t388.length co10) := (blk_cell BK393.out 1).trans rfl
      have hfz38_0 := fz_ BK393 0
      have hfz38_1 := fz_ BK393 1
      obtain ⟨Ao39, co39, eo39⟩ := Kd.R_slice HO_5.out
      subst eo39
      have hnb40 := NB386_0.out
      have hnc40 := NB0_386.out
      have hcz41_0 : wr.cell? ⟨gb386, 0, none⟩ = some (.int .i64 0) := (blk_cell BK386.out 0).trans rfl
      have hcz41_1 : wr.cell? ⟨gb386, 1, none⟩ = some (.slice none 0 0) := (blk_cell BK386.out 1).trans rfl
      have hfz41_0 := fz_ BK386 0
      have hfz41_1 := fz_ BK386 1
      go_wp2
      refine bodyPost_ret (results_cell_row rfl _ _ gb386 26 #[.int .i64 t387, .slice Ao39 x5_2.length co39] (0, 0) _ rfl (by (with_reducible repeat (first | refine blk_drewN ?_ _ | refine blk_drew ?_ | refine blk_alloc ?_ _)); refine blk_put (cs := #[.int .i64 t387, .slice none 0 0]) ?_ 1 _ rfl; (with_reducible repeat (first | refine blk_drewN ?_ _ | refine blk_drew ?_ | refine blk_alloc ?_ _)); refine blk_put (cs := #[.int .i64 0, .slice none 0 0]) ?_ 0 _ rfl; (with_reducible repeat (first | refine blk_drewN ?_ _ | refine blk_drew ?_ | refine blk_alloc ?_ _)); exact BK386.out) Try.underlying26 rfl (by kernel_rfl)) rfl ?_
      exact ⟨_, re_, by (with_reducible repeat (first | apply Kd.R_alloc | apply Kd.R_drewN | apply Kd.R_drew)); exact Kd.R_mono (Kd.R_far (p := ⟨gb386, 1, none⟩) (Kd.R_far (p := ⟨gb386, 0, none⟩) (Kd.R_types HO_5.out BK386.out (by decide)) (fun _ hk => hk.2) (.int .i64 t387)) (fun _ hk => hk.2) (.slice Ao39 x5_2.length co39)) (fun _ hk => trivial), by repeat (first | (with_reducible first | exact HI0.out | apply IsS63.alloc | apply IsS63.drewN | apply IsS63.drew | apply IsS63.set_1 | apply IsS63.set_2 | refine IsS63.far ?_ NB0_386.out _ | refine IsS63.far ?_ NB0_393.out _) | exact HI0.out), by repeat (first | (with_reducible first | exact HB.out | apply below_alloc | apply pw_below_drewN | apply below_drew1 | refine below_set ?_ (IsS63.ge HI0.out) | refine below_set ?_ GE386.out | refine below_set ?_ GE393.out) | exact HB.out), by repeat (first | (with_reducible first | exact HK.out | apply KeepBut.set_ | apply keep_drewN | apply keep_drew | apply keep_alloc | refine keep_far ?_ GW386.out _ | refine keep_far ?_ GW393.out _) | exact HK.out)⟩
     rw [if_pos c30] at H
     have c30b0 : decide (x25_2 < (t388.length : Int)) = true := decide_eq_true c30
     clear c30
     by_cases c31 : 0 ≤ x25_2
     rotate_left
     ·rw [if_neg c31] at H
      cases H
     rw [if_pos c31] at H
     have c31b0 : decide (0 ≤ x25_2) = true := decide_eq_true c31
     clear c31
     by_cases c32 : x25_2 < (t388.length : Int)
     rotate_left
     ·rw [if_neg c32] at H
      cases H
     rw [if_pos c32] at H
     have c32b0 : decide (x25_2 < (t388.length : Int)) = true := decide_eq_true c32
     clear c32
     by_cases c33 : (rd t388 x25_2) = t398
     ·rw [if_pos c33] at H
      have c33b0 : ((rd t388 x25_2) == t398) = true := beq_iff_eq.mpr c33
      have c33b1 : ((rd t388 x25_2) != t398) = false := bne_eq_false_iff_eq.mpr c33
      clear c33
      have H' := a_ H
      clear H
      have p401 : 0 ≤ (x25_2 : Int) := od_
      have q401 : x25_2 < (t388.length : Int) := od_
      obtain ⟨ad401, e401, hx401_0⟩ := Kd.at_int (Kd.R_reads' HO_23.out).2.2 x25_2 p401 q401
      cases e401
      replace p401 := eq_true p401
      replace q401 := eq_true q401
      go_wp2
      go_roundg k2
      case measure => have := HJ2.out; have := HK2.out; omega
      case rel => exact ⟨(x5_2), (wrap64 (x25_2 + 1)), rs_, H', ⟨by have := HJ2.out; have := HK2.out; omega⟩, ⟨Rl_ HO_5.out⟩, ⟨Rl_ HO_23.out⟩, ⟨Rl_ HO_394001.out⟩, ⟨bl_ BK386⟩, ⟨bl_ BK393⟩, ⟨by repeat (first | (with_reducible first | exact HI0.out | apply IsS63.alloc | apply IsS63.drewN | apply IsS63.drew | apply IsS63.set_1 | apply IsS63.set_2 | refine IsS63.far ?_ NB0_386.out _ | refine IsS63.far ?_ NB0_393.out _) | exact HI0.out)⟩, ⟨by repeat (first | (with_reducible first | exact HK.out | apply KeepBut.set_ | apply keep_drewN | apply keep_drew | apply keep_alloc | refine keep_far ?_ GW386.out _ | refine keep_far ?_ GW393.out _) | exact HK.out)⟩, ⟨by repeat (first | (with_reducible first | exact HB.out | apply below_alloc | apply pw_below_drewN | apply below_drew1 | refine below_set ?_ (IsS63.ge HI0.out) | refine below_set ?_ GE386.out | refine below_set ?_ GE393.out) | exact HB.out)⟩⟩
     rw [if_neg c33] at H
     have c33b0 : ((rd t388 x25_2) == t398) = false := beq_eq_false_iff_ne.mpr c33
     have c33b1 : ((rd t388 x25_2) != t398) = true := bne_iff_ne.mpr c33
     by_cases c34 : x5_2.length < 17592186044416
     rotate_left
     ·rw [if_neg c34] at H
      cases H
     rw [if_pos c34] at H
     have LMc34 := a_ c34
     clear c34
     obtain ⟨y402, hy402⟩ : ∃ y_ : List Int, y_ = (x5_2 ++ [rd t388 x25_2]) := ⟨_, rfl⟩
     replace H : (spec_l1Cur_splitLadder.l0 k2 t398 y402 t388 (t388.length : Int) (wrap64 (x25_2 + 1)) s0_0 t399 t400 t387 t388) = some (r1, r2, r3, r4) := by first | (rw [hy402]; with_reducible exact H) | (have H2_ := (Option.bind_some _ _).symm.trans H; rw [hy402]; with_reducible exact H2_) | (have H2_ := (Option.bind_some _ _).symm.trans H; with_reducible exact H2_) | with_reducible exact H | (rw [hy402]; exact H) | exact H
     have Ny402 := a_ hy402
     clear hy402
     have H' := a_ H
     clear H
     have p401 : 0 ≤ (x25_2 : Int) := od_
     have q401 : x25_2 < (t388.length : Int) := od_
     obtain ⟨ad401, e401, hx401_0⟩ := Kd.at_int (Kd.R_reads' HO_23.out).2.2 x25_2 p401 q401
     cases e401
     replace p401 := eq_true p401
     replace q401 := eq_true q401
     go_wp2_with (first | ((with_reducible refine gate_builtin (b := .append) (xs := #[.tmp 32, .tmp 34]) rfl ?_); at_builtin; refine Kd.R_append (Kd.int .i64) w.heap.size rfl (.tmp 32) (.tmp 34) 24 3 (.int .i64 0) 8 rfl Try.underlying24 info3 rfl (by decide) (by omega) u5 x5_2 (rd t388 x25_2) [.int .i64 (rd t388 x25_2)] (fun k_ => some k_ ≠ (.slice (some ad401) t388.length co10 : Value).ownBlock ∧ some k_ ≠ (.slice (some ad401) t388.length co10 : Value).ownBlock) (fun _ => False) rfl rfl ?aP (fun _ hk => hk.elim) ?aF ?aO (Below.refl _ _) ?aS ?aL ?_; (case aP => exact rfl); (case aF => exact (fun k_ hk => ⟨Kd.fresh' (Kd.R_lt (Rl_ HO_23.out)) k_ hk, Kd.fresh' (Kd.R_lt (Rl_ HO_394001.out)) k_ hk⟩)); (case aO => exact (Rl_ HO_5.out)); (case aS => exact (keep_size (w := w) (g := g) (row := none) (by repeat (first | (with_reducible first | exact HK.out | apply KeepBut.set_ | apply keep_drewN | apply keep_drew | apply keep_alloc | refine keep_far ?_ GW386.out _ | refine keep_far ?_ GW393.out _) | exact HK.out)))); (case aL => have := LMc34.out; omega); intro v403 w35 ho hb hg hat; rw [← Ny402.out] at ho; replace HO_23 := a_ (Kd.R_after (ok := (fun _ => True)) (Rl_ (Kd.R_mono HO_23.out (fun _ hk => ⟨trivial, hk⟩))) hg hat); replace HO_394001 := a_ (Kd.R_after (ok := (fun _ => True)) (Rl_ (Kd.R_mono HO_394001.out (fun _ hk => ⟨trivial, hk⟩))) hg hat); replace BK386 := a_ (blk_grown (g := gb386) (o := .cells #[.int .i64 0, .slice none 0 0] 26 (0, 0)) (bl_ BK386) hg (Kd.R_ne HO_5.out BK386.out (by decide))); replace BK393 := a_ (blk_grown (g := gb393) (o := .cells #[.int .i64 t387, .slice (some ad401) t388.length co10] 26 (0, 0)) (bl_ BK393) hg (Kd.R_ne HO_5.out BK393.out (by decide))); replace HB := a_ (below_weaken (by repeat (first | (with_reducible first | exact HB.out | apply below_alloc | apply pw_below_drewN | apply below_drew1 | refine below_set ?_ (IsS63.ge HI0.out) | refine below_set ?_ GE386.out | refine below_set ?_ GE393.out) | exact HB.out)) HL.out hb); replace HI0 := a_ (IsS63.grown (by repeat (first | (with_reducible first | exact HI0.out | apply IsS63.alloc | apply IsS63.drewN | apply IsS63.drew | apply IsS63.set_1 | apply IsS63.set_2 | refine IsS63.far ?_ NB0_386.out _ | refine IsS63.far ?_ NB0_393.out _) | exact HI0.out)) hg (IsS63.own_ne HI0.out HO_5.out (by decide))); replace HK := a_ (KeepBut.trans (by repeat (first | (with_reducible first | exact HK.out | apply KeepBut.set_ | apply keep_drewN | apply keep_drew | apply keep_alloc | refine keep_far ?_ GW386.out _ | refine keep_far ?_ GW393.out _) | exact HK.out)) (KeepBut.of_grown hg g) (Kd.R_base2 HO_5.out)); have HO404 := a_ (ho); clear HO_5; clear ho hb hg hat))
     go_roundg k2
     case measure => have := HJ2.out; have := HK2.out; omega
     case rel => exact ⟨(y402), (wrap64 (x25_2 + 1)), rs_, H', ⟨by have := HJ2.out; have := HK2.out; omega⟩, ⟨Rl_ HO404.out⟩, ⟨Rl_ (Kd.R_mono HO_23.out (fun _ hk => hk.2))⟩, ⟨Rl_ (Kd.R_mono HO_394001.out (fun _ hk => hk.2))⟩, ⟨bl_ BK386⟩, ⟨bl_ BK393⟩, ⟨by repeat (first | (with_reducible first | exact HI0.out | apply IsS63.alloc | apply IsS63.drewN | apply IsS63.drew | apply IsS63.set_1 | apply IsS63.set_2 | refine IsS63.far ?_ NB0_386.out _ | refine IsS63.far ?_ NB0_393.out _) | exact HI0.out)⟩, ⟨by repeat (first | (with_reducible first | exact HK.out | apply KeepBut.set_ | apply keep_drewN | apply keep_drew | apply keep_alloc | refine keep_far ?_ GW386.out _ | refine keep_far ?_ GW393.out _) | exact HK.out)⟩, ⟨by repeat (first | (with_reducible first | exact HB.out | apply below_alloc | apply pw_below_drewN | apply below_drew1 | refine below_set ?_ (IsS63.ge HI0.out) | refine below_set ?_ GE386.out | refine below_set ?_ GE393.out) | exact HB.out)⟩⟩

/-! ### spec_DrawPutWire: function 17 -/
def spec_DrawPutWire.f (k : Nat) (l0 : List Int) : Option (Int × List Int × Int) := (spec_l1Cur_splitLadder.f k l0 0 0).bind fun bt407 => ((spec_l1Cur_pick.f l0 bt407.2.2.1 bt407.2.2.2 8).bind fun bt413 => ((spec_l1Cur_pick.f l0 bt413.2.1 bt413.2.2 9).bind fun bt416 => (some (bt407.1, bt407.2.1, wrap64 (bt413.1 - (wrap64 (Int.tdiv bt416.1 8)))))))
theorem spec_DrawPutWire.mono : ∀ a0 k, LeO (spec_DrawPutWire.f k a0) (spec_DrawPutWire.f (k + 1) a0) := by
 intro a0 k
 unfold spec_DrawPutWire.f
 repeat' first
  | (with_reducible exact spec_l1Cur_splitLadder.mono _ _ _ _)
  | (with_reducible exact LeO.refl _)
  | (with_reducible exact LeO.none _)
  | (with_reducible refine LeO.ite ?_ ?_)
  | (with_reducible refine LeO.bind ?_ (fun _ => ?_))
  | exact LeO.none _
  | refine LeO.ite ?_ ?_
  | refine LeO.bind ?_ (fun _ => ?_)
set_option maxHeartbeats 8000000 in
set_option maxRecDepth 100000 in
theorem spec_DrawPutWire.calls (k : Nat) (A0 : Option Addr) (c0 : Nat) (l0 : List Int) (r1 : Int) (r2 : List Int) (r3 : Int) (w : World) (hr0 : Kd.C (Kd.int .u8) w A0 l0.length l0) (hc0 : l0.length ≤ c0) (h : spec_DrawPutWire.f k l0 = some (r1, r2, r3)) :
 Calls Try.prog 17 #[.slice A0 l0.length c0] w fun e w' => ∃ v1_ : Value, e = .returned (.tuple #[.agg #[.int .i64 r1, v1_], .int .i64 r3]) ∧ Kd.R (Kd.int .i64) 3 w' w.heap.size (fun _ => True) v1_ r2 ∧ Below w.heap.size w w' := by
 have hu26 := Try.underlying26
 have hu63 := Try.underlying63
 have HR0 := a_ hr0
 have HC0 := a_ hc0
 clear hr0 hc0
 have HB := a_ (Below.refl w.heap.size w)
 have H : ((spec_l1Cur_splitLadder.f k l0 0 0).bind fun bt407 => ((spec_l1Cur_pick.f l0 bt407.2.2.1 bt407.2.2.2 8).bind fun bt413 => ((spec_l1Cur_pick.f l0 bt413.2.1 bt413.2.2 9).bind fun bt416 => (some (bt407.1, bt407.2.1, wrap64 (bt413.1 - (wrap64 (Int.tdiv bt416.1 8)))))))) = some (r1, r2, r3) := h
 clear h
 obtain ⟨⟨t407, t408, t411, t412⟩, A2, H⟩ := ob_ H
 (try dsimp only at H)
 obtain ⟨⟨t413, t414, t415⟩, A3, H⟩ := ob_ H
 (try dsimp only at H)
 obtain ⟨⟨t416, t417, t418⟩, A4, H⟩ := ob_ H
 (try dsimp only at H)
 simp only [Option.some.injEq, Prod.mk.injEq] at H
 obtain ⟨rfl, rfl, rfl⟩ := H
 go_enter Try.func17, Try.ntmps17
 go_wp2_with (first | ((with_reducible refine gate_dst (N := 2) rfl ?_); refine bx_ #[.int .i64 0, .slice none 0 0] 26 ?_ 2; intro gb405 hg w5 hbox hb; have BK405 := a_ (hbox); have GW405 := gw_ HB hg; have GE405 := gw_ HB hg; replace HB := Bs_ HB hb; clear hb hbox hg) | ((with_reducible refine gate_dst (N := 7) rfl ?_); refine bx_ #[.slice A0 l0.length c0, .int .i64 0, .int .u64 0] 63 ?_ 7; intro gb406 hg w6 hbox hb; have HI406 := a_ ((⟨_, _, hbox, (by rw [hg]; exact (below_size (Bl_ HB)) : w.heap.size ≤ gb406), HR0.out⟩ : IsS63 w w6 gb406 l0 0 0)); have GW406 := gw_ HB hg; have GE406 := gw_ HB hg; replace HB := Bs_ HB hb; have NB405_406 := nbl_ BK405 hg; have NB406_405 := nbg_ BK405 hg; replace BK405 := blkB_ BK405 hb; clear hb hbox hg) | ((with_reducible refine gate_callee (f := 49) rfl ?_); refine gm_ (some 9) Try.func49 #[.pointer (some ⟨gb406, 0, none⟩)] rfl ?_; (with_reducible refine (spec_l1Cur_splitLadder.calls k gb406 l0 0 0 t407 t408 t411 t412 w _ ?side1 ?side2 A2.out).mono ?_); (case side1 => repeat (first | (with_reducible first | exact HI406.out | apply IsS63.alloc | apply IsS63.drewN | apply IsS63.drew | apply IsS63.set_1 | apply IsS63.set_2 | refine IsS63.far ?_ NB406_405.out _) | exact HI406.out)); (case side2 => repeat (first | (with_reducible first | exact HB.out | apply below_alloc | apply pw_below_drewN | apply below_drew1 | refine below_set ?_ (IsS63.ge HI406.out) | refine below_set ?_ GE405.out) | exact HB.out)); rintro e w7 ⟨v409, rfl, ho0, hi, hb, hk⟩; refine ⟨_, rfl, ?_⟩; replace BK405 := a_ (KeepBut.blk hk (g' := gb405) (o := .cells #[.int .i64 0, .slice none 0 0] 26 (0, 0)) (bl_ BK405) NB405_406.out (by simp)); have HO410 := a_ (Kd.R_lower ho0 (below_size (by repeat (first | (with_reducible first | exact HB.out | apply below_alloc | apply pw_below_drewN | apply below_drew1 | refine below_set ?_ (IsS63.ge HI406.out) | refine below_set ?_ GE405.out) | exact HB.out)))); replace HB := a_ (hb); replace HI406 := a_ (hi); (try clear hb); (try clear hb2); (try clear hk); (try clear hi); (try clear ho0)) | ((with_reducible refine gate_callee (f := 50) rfl ?_); refine gm_ (some 11) Try.func50 #[.pointer (some ⟨gb406, 0, none⟩), .int .i64 8] rfl ?_; (with_reducible refine (spec_l1Cur_pick.calls gb406 l0 t411 t412 8 t413 t414 t415 w _ ?side1 ?side2 A3.out).mono ?_); (case side1 => repeat (first | (with_reducible first | exact HI406.out | apply IsS63.alloc | apply IsS63.drewN | apply IsS63.drew | apply IsS63.set_1 | apply IsS63.set_2 | refine IsS63.far ?_ NB406_405.out _) | exact HI406.out)); (case side2 => repeat (first | (with_reducible first | exact HB.out | apply below_alloc | apply pw_below_drewN | apply below_drew1 | refine below_set ?_ (IsS63.ge HI406.out) | refine below_set ?_ GE405.out) | exact HB.out)); rintro e w8 ⟨rfl, hi, hb, hk⟩; refine ⟨_, rfl, ?_⟩; replace BK405 := a_ (KeepBut.blk hk (g' := gb405) (o := .cells #[.int .i64 0, .slice none 0 0] 26 (0, 0)) (bl_ BK405) NB405_406.out (by simp)); replace HO410 := a_ (Kd.R_mono (Kd.R_keep (IsS63.apart (show IsS63 w _ gb406 l0 t411 t412 from by repeat (first | (with_reducible first | exact HI406.out | apply IsS63.alloc | apply IsS63.drewN | apply IsS63.drew | apply IsS63.set_1 | apply IsS63.set_2 | refine IsS63.far ?_ NB406_405.out _) | exact HI406.out)) (Rl_ HO410.out) (by decide)) hk (fun _ h => h.2)) (fun _ h => h.1)); replace HB := a_ (hb); replace HI406 := a_ (hi); (try clear hb); (try clear hb2); (try clear hk); (try clear hi)) | ((with_reducible refine gate_callee (f := 50) rfl ?_); refine gm_ (some 13) Try.func50 #[.pointer (some ⟨gb406, 0, none⟩), .int .i64 9] rfl ?_; (with_reducible refine (spec_l1Cur_pick.calls gb406 l0 t414 t415 9 t416 t417 t418 w _ ?side1 ?side2 A4.out).mono ?_); (case side1 => repeat (first | (with_reducible first | exact HI406.out | apply IsS63.alloc | apply IsS63.drewN | apply IsS63.drew | apply IsS63.set_1 | apply IsS63.set_2 | refine IsS63.far ?_ NB406_405.out _) | exact HI406.out)); (case side2 => repeat (first | (with_reducible first | exact HB.out | apply below_alloc | apply pw_below_drewN | apply below_drew1 | refine below_set ?_ (IsS63.ge HI406.out) | refine below_set ?_ GE405.out) | exact HB.out)); rintro e w9 ⟨rfl, hi, hb, hk⟩; refine ⟨_, rfl, ?_⟩; replace BK405 := a_ (KeepBut.blk hk (g' := gb405) (o := .cells #[.int .i64 0, .slice none 0 0] 26 (0, 0)) (bl_ BK405) NB405_406.out (by simp)); replace HO410 := a_ (Kd.R_mono (Kd.R_keep (IsS63.apart (show IsS63 w _ gb406 l0 t414 t415 from by repeat (first | (with_reducible first | exact HI406.out | apply IsS63.alloc | apply IsS63.drewN | apply IsS63.drew | apply IsS63.set_1 | apply IsS63.set_2 | refine IsS63.far ?_ NB406_405.out _) | exact HI406.out)) (Rl_ HO410.out) (by decide)) hk (fun _ h => h.2)) (fun _ h => h.1)); replace HB := a_ (hb); replace HI406 := a_ (hi); (try clear hb); (try clear hb2); (try clear hk); (try clear hi); have hnb10 := NB405_406.out; have hnc10 := NB406_405.out; have hcz11_0 := cz_ (.int .i64 0) BK405 0; have hcz11_1 := cz_ (.slice none 0 0) BK405 1; have hfz11_0 := fz_ BK405 0; have hfz11_1 := fz_ BK405 1; obtain ⟨Ao12, co12, eo12⟩ := Kd.R_slice HO410.out; subst eo12))
 refine bodyPost_ret (results_ct rfl _ _ gb405 26 #[.int .i64 t407, .slice Ao12 t408.length co12] (0, 0) _ rfl (by (with_reducible repeat (first | refine blk_drewN ?_ _ | refine blk_drew ?_ | refine blk_alloc ?_ _)); refine blk_put (cs := #[.int .i64 t407, .slice none 0 0]) ?_ 1 _ rfl; (with_reducible repeat (first | refine blk_drewN ?_ _ | refine blk_drew ?_ | refine blk_alloc ?_ _)); refine blk_put (cs := #[.int .i64 0, .slice none 0 0]) ?_ 0 _ rfl; (with_reducible repeat (first | refine blk_drewN ?_ _ | refine blk_drew ?_ | refine blk_alloc ?_ _)); exact BK405.out) Try.underlying26 rfl (by kernel_rfl)) rfl ?_
 exact ⟨_, re_, by (with_reducible repeat (first | apply Kd.R_alloc | apply Kd.R_drewN | apply Kd.R_drew)); exact Kd.R_mono (Kd.R_far (p := ⟨gb405, 1, none⟩) (Kd.R_far (p := ⟨gb405, 0, none⟩) (Kd.R_types HO410.out BK405.out (by decide)) (fun _ hk => hk.2) (.int .i64 t407)) (fun _ hk => hk.2) (.slice Ao12 t408.length co12)) (fun _ hk => trivial), by repeat (first | (with_reducible first | exact HB.out | apply below_alloc | apply pw_below_drewN | apply below_drew1 | refine below_set ?_ (IsS63.ge HI406.out) | refine below_set ?_ GE405.out) | exact HB.out)⟩

/-! ### impl_checked: function 52 -/
def impl_checked.f (a0_0 : Int) (l0_1 : List Int) : Option (Int × List Int × Bool) := (impl_isLadder.f a0_0 l0_1).bind fun t421 => (if t421 = true then (some (a0_0, l0_1, true)) else (some (0, ([] : List Int), false)))
set_option maxHeartbeats 8000000 in
set_option maxRecDepth 100000 in
theorem impl_checked.calls (a0_0 : Int) (P0_1_ : Nat → Prop) (u9000_ : Value) (l0_1 : List Int) (r1 : Int) (r2 : List Int) (r3 : Bool) (w0 w : World) (hB : Below w0.heap.size w0 w) (ho0_1 : Kd.R (Kd.int .i64) 3 w w0.heap.size P0_1_ u9000_ l0_1) (h : impl_checked.f a0_0 l0_1 = some (r1, r2, r3)) :
 Calls Try.prog 52 #[.agg #[.int .i64 a0_0, u9000_]] w fun e w' => ∃ v1_ : Value, e = .returned (.tuple #[.agg #[.int .i64 r1, v1_], .bool r3]) ∧ Kd.R (Kd.int .i64) 3 w' w0.heap.size (fun k_ => (P0_1_ k_ ∨ w.heap.size ≤ k_)) v1_ r2 ∧ Below w0.heap.size w0 w' ∧ Kept w w' (fun k_ => P0_1_ k_) := by
 have hu26 := Try.underlying26
 have HO0_1 := a_ (show Kd.R (Kd.int .i64) 3 w w0.heap.size (fun k_ => (P0_1_ k_ ∨ w.heap.size ≤ k_)) u9000_ l0_1 from Kd.R_mono ho0_1 (fun k_ hk => (.inl hk)))
 have HK := a_ (Kept.refl w (fun k_ => P0_1_ k_))
 have HW0 := a_ hB.size
 have HB := a_ hB
 clear hB
 have H : ((impl_isLadder.f a0_0 l0_1).bind fun t421 => (if t421 = true then (some (a0_0, l0_1, true)) else (some (0, ([] : List Int), false)))) = some (r1, r2, r3) := h
 clear h
 obtain ⟨t421, A2, H⟩ := ob_ H
 (try dsimp only at H)
 by_cases c3 : t421 = true
 ·subst c3
  rw [if_pos rfl] at H
  simp only [Option.some.injEq, Prod.mk.injEq] at H
  obtain ⟨rfl, rfl, rfl⟩ := H
  obtain ⟨Ao4, co4, eo4⟩ := Kd.R_slice HO0_1.out
  subst eo4
  go_enter Try.func52, Try.ntmps52
  go_wp2_with (first | ((with_reducible refine gate_dst (N := 1) rfl ?_); refine bx_ #[.int .i64 a0_0, .slice Ao4 l0_1.length co4] 26 ?_ 1; intro gb419 hg w5 hbox hb; replace HO0_1 := a_ (Kd.R_below (Rl_ HO0_1.out) hb); have BK419 := a_ (hbox); have GW419 := a_ ((by rw [hg]; exact (by first | exact HK.out.1 | exact (show Kept w _ (fun k_ => P0_1_ k_) from by repeat (first | (with_reducible first | exact HK.out | apply Kept.alloc | apply Kept.drewN | apply Kept.drew) | exact HK.out)).1) : w.heap.size ≤ gb419)); replace HK := a_ (Kept.below (S := (fun k_ => P0_1_ k_)) (by repeat (first | (with_reducible first | exact HK.out | apply Kept.alloc | apply Kept.drewN | apply Kept.drew) | exact HK.out)) hb); have GE419 := a_ ((by rw [hg]; exact (below_size (Bl_ HB)) : w0.heap.size ≤ gb419)); replace HB := Bs_ HB hb; clear hb hbox hg) | ((with_reducible refine gate_dst (N := 2) rfl ?_); refine bx_ #[.int .i64 0, .slice none 0 0] 26 ?_ 2; intro gb420 hg w6 hbox hb; replace HO0_1 := a_ (Kd.R_below (Rl_ HO0_1.out) hb); have BK420 := a_ (hbox); have GW420 := a_ ((by rw [hg]; exact (by first | exact HK.out.1 | exact (show Kept w _ (fun k_ => P0_1_ k_) from by repeat (first | (with_reducible first | exact HK.out | apply Kept.alloc | apply Kept.drewN | apply Kept.drew | refine Kept.setCell ?_ (.inr GW419.out) _) | exact HK.out)).1) : w.heap.size ≤ gb420)); replace HK := a_ (Kept.below (S := (fun k_ => P0_1_ k_)) (by repeat (first | (with_reducible first | exact HK.out | apply Kept.alloc | apply Kept.drewN | apply Kept.drew | refine Kept.setCell ?_ (.inr GW419.out) _) | exact HK.out)) hb); have GE420 := a_ ((by rw [hg]; exact (below_size (Bl_ HB)) : w0.heap.size ≤ gb420)); replace HB := Bs_ HB hb; have NB419_420 := nbl_ BK419 hg; have NB420_419 := nbg_ BK419 hg; replace BK419 := blkB_ BK419 hb; clear hb hbox hg; have hnb7 := NB419_420.out; have hnc7 := NB420_419.out; have hcz8_0 := cz_ (.int .i64 a0_0) BK419 0; have hcz8_1 := cz_ (.slice Ao4 l0_1.length co4) BK419 1; have hfz8_0 := fz_ BK419 0; have hfz8_1 := fz_ BK419 1) | ((with_reducible refine gate_callee (f := 40) rfl ?_); refine gm_ (some 5) Try.func40 #[.agg #[.int .i64 a0_0, .slice Ao4 l0_1.length co4]] rfl ?_; (with_reducible refine (impl_isLadder.calls a0_0 _ _ l0_1 true _ ?side1 ?side2 A2.out).mono ?_); (case side1 => exact Cl_ (Kd.R_reads' HO0_1.out).2.2); (case side2 => exact (Kd.R_reads' HO0_1.out).2.1); rintro e w9 ⟨rfl, hb⟩; refine ⟨_, rfl, ?_⟩; replace HO0_1 := a_ (Kd.R_below (Rl_ HO0_1.out) hb); replace BK419 := blkB_ BK419 hb; replace BK420 := blkB_ BK420 hb; replace HK := a_ (Kept.below (S := (fun k_ => P0_1_ k_)) (by repeat (first | (with_reducible first | exact HK.out | apply Kept.alloc | apply Kept.drewN | apply Kept.drew | refine Kept.setCell ?_ (.inr GW419.out) _ | refine Kept.setCell ?_ (.inr GW420.out) _) | exact HK.out)) hb); replace HB := Bs_ HB hb; (try clear hb); (try clear hb2); (try clear hk); (try clear hi); have hcz10_0 := cz_ (.int .i64 a0_0) BK419 0; have hcz10_1 := cz_ (.slice Ao4 l0_1.length co4) BK419 1; have hfz10_0 := fz_ BK419 0; have hfz10_1 := fz_ BK419 1; have hcz11_0 := cz_ (.int .i64 0) BK420 0; have hcz11_1 := cz_ (.slice none 0 0) BK420 1; have hfz11_0 := fz_ BK420 0; have hfz11_1 := fz_ BK420 1))
  refine bodyPost_ret (results_ct rfl _ _ gb420 26 #[.int .i64 a0_0, .slice Ao4 l0_1.length co4] (0, 0) _ rfl (by (with_reducible repeat (first | refine blk_drewN ?_ _ | refine blk_drew ?_ | refine blk_alloc ?_ _)); refine blk_put (cs := #[.int .i64 a0_0, .slice none 0 0]) ?_ 1 _ rfl; (with_reducible repeat (first | refine blk_drewN ?_ _ | refine blk_drew ?_ | refine blk_alloc ?_ _)); refine blk_put (cs := #[.int .i64 0, .slice none 0 0]) ?_ 0 _ rfl; (with_reducible repeat (first | refine blk_drewN ?_ _ | refine blk_drew ?_ | refine blk_alloc ?_ _)); exact BK420.out) Try.underlying26 rfl (by kernel_rfl)) rfl ?_
  exact ⟨_, re_, by (with_reducible repeat (first | apply Kd.R_alloc | apply Kd.R_drewN | apply Kd.R_drew)); exact Kd.R_mono (Kd.R_far (p := ⟨gb420, 1, none⟩) (Kd.R_far (p := ⟨gb420, 0, none⟩) (Kd.R_types HO0_1.out BK420.out (by decide)) (fun _ hk => hk.2) (.int .i64 a0_0)) (fun _ hk => hk.2) (.slice Ao4 l0_1.length co4)) (fun _ hk => hk.1), Bl_ HB, by repeat (first | (with_reducible first | exact HK.out | apply Kept.alloc | apply Kept.drewN | apply Kept.drew | refine Kept.setCell ?_ (.inr GW419.out) _ | refine Kept.setCell ?_ (.inr GW420.out) _) | exact HK.out)⟩
 replace c3 := Bool.eq_false_iff.mpr c3
 subst c3
 rw [if_neg (show ¬ (false = true) by decide)] at H
 simp only [Option.some.injEq, Prod.mk.injEq] at H
 obtain ⟨rfl, rfl, rfl⟩ := H
 obtain ⟨Ao12, co12, eo12⟩ := Kd.R_slice HO0_1.out
 subst eo12
 go_enter Try.func52, Try.ntmps52
 go_wp2_with (first | ((with_reducible refine gate_dst (N := 1) rfl ?_); refine bx_ #[.int .i64 a0_0, .slice Ao12 l0_1.length co12] 26 ?_ 1; intro gb419 hg w13 hbox hb; replace HO0_1 := a_ (Kd.R_below (Rl_ HO0_1.out) hb); have BK419 := a_ (hbox); have GW419 := a_ ((by rw [hg]; exact (by first | exact HK.out.1 | exact (show Kept w _ (fun k_ => P0_1_ k_) from by repeat (first | (with_reducible first | exact HK.out | apply Kept.alloc | apply Kept.drewN | apply Kept.drew) | exact HK.out)).1) : w.heap.size ≤ gb419)); replace HK := a_ (Kept.below (S := (fun k_ => P0_1_ k_)) (by repeat (first | (with_reducible first | exact HK.out | apply Kept.alloc | apply Kept.drewN | apply Kept.drew) | exact HK.out)) hb); have GE419 := a_ ((by rw [hg]; exact (below_size (Bl_ HB)) : w0.heap.size ≤ gb419)); replace HB := Bs_ HB hb; clear hb hbox hg) | ((with_reducible refine gate_dst (N := 2) rfl ?_); refine bx_ #[.int .i64 0, .slice none 0 0] 26 ?_ 2; intro gb420 hg w14 hbox hb; replace HO0_1 := a_ (Kd.R_below (Rl_ HO0_1.out) hb); have BK420 := a_ (hbox); have GW420 := a_ ((by rw [hg]; exact (by first | exact HK.out.1 | exact (show Kept w _ (fun k_ => P0_1_ k_) from by repeat (first | (with_reducible first | exact HK.out | apply Kept.alloc | apply Kept.drewN | apply Kept.drew | refine Kept.setCell ?_ (.inr GW419.out) _) | exact HK.out)).1) : w.heap.size ≤ gb420)); replace HK := a_ (Kept.below (S := (fun k_ => P0_1_ k_)) (by repeat (first | (with_reducible first | exact HK.out | apply Kept.alloc | apply Kept.drewN | apply Kept.drew | refine Kept.setCell ?_ (.inr GW419.out) _) | exact HK.out)) hb); have GE420 := a_ ((by rw [hg]; exact (below_size (Bl_ HB)) : w0.heap.size ≤ gb420)); replace HB := Bs_ HB hb; have NB419_420 := nbl_ BK419 hg; have NB420_419 := nbg_ BK419 hg; replace BK419 := blkB_ BK419 hb; clear hb hbox hg; have hnb15 := NB419_420.out; have hnc15 := NB420_419.out; have hcz16_0 := cz_ (.int .i64 a0_0) BK419 0; have hcz16_1 := cz_ (.slice Ao12 l0_1.length co12) BK419 1; have hfz16_0 := fz_ BK419 0; have hfz16_1 := fz_ BK419 1) | ((with_reducible refine gate_callee (f := 40) rfl ?_); refine gm_ (some 5) Try.func40 #[.agg #[.int .i64 a0_0, .slice Ao12 l0_1.length co12]] rfl ?_; (with_reducible refine (impl_isLadder.calls a0_0 _ _ l0_1 false _ ?side1 ?side2 A2.out).mono ?_); (case side1 => exact Cl_ (Kd.R_reads' HO0_1.out).2.2); (case side2 => exact (Kd.R_reads' HO0_1.out).2.1); rintro e w17 ⟨rfl, hb⟩; refine ⟨_, rfl, ?_⟩; replace HO0_1 := a_ (Kd.R_below (Rl_ HO0_1.out) hb); replace BK419 := blkB_ BK419 hb; replace BK420 := blkB_ BK420 hb; replace HK := a_ (Kept.below (S := (fun k_ => P0_1_ k_)) (by repeat (first | (with_reducible first | exact HK.out | apply Kept.alloc | apply Kept.drewN | apply Kept.drew | refine Kept.setCell ?_ (.inr GW419.out) _ | refine Kept.setCell ?_ (.inr GW420.out) _) | exact HK.out)) hb); replace HB := Bs_ HB hb; (try clear hb); (try clear hb2); (try clear hk); (try clear hi); have hcz18_0 := cz_ (.int .i64 0) BK420 0; have hcz18_1 := cz_ (.slice none 0 0) BK420 1; have hfz18_0 := fz_ BK420 0; have hfz18_1 := fz_ BK420 1))
 refine bodyPost_ret (results_ct rfl _ _ gb420 26 #[.int .i64 0, .slice none 0 0] (0, 0) _ rfl (by (with_reducible repeat (first | refine blk_drewN ?_ _ | refine blk_drew ?_ | refine blk_alloc ?_ _)); refine blk_put (cs := #[.int .i64 0, .slice none 0 0]) ?_ 1 _ rfl; (with_reducible repeat (first | refine blk_drewN ?_ _ | refine blk_drew ?_ | refine blk_alloc ?_ _)); refine blk_put (cs := #[.int .i64 0, .slice none 0 0]) ?_ 0 _ rfl; (with_reducible repeat (first | refine blk_drewN ?_ _ | refine blk_drew ?_ | refine blk_alloc ?_ _)); exact BK420.out) Try.underlying26 rfl (by kernel_rfl)) rfl ?_
 exact ⟨_, re_, by first | exact Kd.R_nil _ _ _ _ _ | exact Kd.N_nil _ _ _ _ _ | exact Kd.V_nil _ _ _ _ _ | exact Kd.Q_nil _ _ _ _ _ | exact Kd.S_nil _ _ _ _ _, Bl_ HB, by repeat (first | (with_reducible first | exact HK.out | apply Kept.alloc | apply Kept.drewN | apply Kept.drew | refine Kept.setCell ?_ (.inr GW419.out) _ | refine Kept.setCell ?_ (.inr GW420.out) _) | exact HK.out)⟩

/-! ### impl_PutWire: function 18 -/
mutual
def impl_PutWire.j0 : Nat → Int → Bool → Int → List Int → Option (Int × List Int × Bool)
 | 0, _, _, _, _ => none
 | k + 1, x1, x18, x423000, x423001 => if x18 = true then (some (0, ([] : List Int), false)) else (impl_PutWire.l0 k x1 x423001 (x423001.length : Int) 0 (wrap64 (x423000 + 1)) ([] : List Int))
def impl_PutWire.l0 : Nat → Int → List Int → Int → Int → Int → List Int → Option (Int × List Int × Bool)
 | 0, _, _, _, _, _, _ => none
 | k + 1, x1, x25, x26, x27, x427000, x427001 => if x27 < x26 then (if 0 ≤ x27 then (if x27 < (x25.length : Int) then (if (rd x25 x27) = (wrap64 (x1 - 1)) then (some (0, ([] : List Int), false)) else (if (rd x25 x27) ≥ x1 then (if x427001.length < 17592186044416 then (impl_PutWire.l0 k x1 x25 x26 (wrap64 (x27 + 1)) x427000 (x427001 ++ [wrap64 ((rd x25 x27) + 1)])) else (none)) else (if x427001.length < 17592186044416 then (impl_PutWire.l0 k x1 x25 x26 (wrap64 (x27 + 1)) x427000 (x427001 ++ [rd x25 x27])) else (none)))) else (none)) else (none)) else ((impl_checked.f x427000 x427001).bind fun bt427 => (some (bt427.1, bt427.2.1, bt427.2.2)))
end
def impl_PutWire.f (k : Nat) (a0_0 : Int) (l0_1 : List Int) (a1 : Int) : Option (Int × List Int × Bool) := (impl_isLadder.f a0_0 l0_1).bind fun t424 => (if t424 = true then ((impl_between.f a1 0 a0_0).bind fun t425 => (impl_PutWire.j0 k a1 (!t425) a0_0 l0_1)) else (impl_PutWire.j0 k a1 true a0_0 l0_1))
theorem impl_PutWire.mono_l : ∀ k, (∀ y0 y1 y2 y3, LeO (impl_PutWire.j0 k y0 y1 y2 y3) (impl_PutWire.j0 (k + 1) y0 y1 y2 y3)) ∧ (∀ y0 y1 y2 y3 y4 y5, LeO (impl_PutWire.l0 k y0 y1 y2 y3 y4 y5) (impl_PutWire.l0 (k + 1) y0 y1 y2 y3 y4 y5))
 | 0 => ⟨fun _ _ _ _ r h => by simp [impl_PutWire.j0] at h, fun _ _ _ _ _ _ r h => by simp [impl_PutWire.l0] at h⟩
 | k + 1 => by
  obtain ⟨ih0, ih1⟩ := impl_PutWire.mono_l k
  refine ⟨?_, ?_⟩
  ·intro y0 y1 y2 y3
   unfold impl_PutWire.j0
   repeat' first
   | (with_reducible exact ih1 _ _ _ _ _ _)
   | (with_reducible exact LeO.refl _)
   | (with_reducible exact LeO.none _)
   | (with_reducible refine LeO.ite ?_ ?_)
   | (with_reducible refine LeO.bind ?_ (fun _ => ?_))
   | exact LeO.none _
   | refine LeO.ite ?_ ?_
   | refine LeO.bind ?_ (fun _ => ?_)
  ·intro y0 y1 y2 y3 y4 y5
   unfold impl_PutWire.l0
   repeat' first
   | (with_reducible exact ih1 _ _ _ _ _ _)
   | (with_reducible exact LeO.refl _)
   | (with_reducible exact LeO.none _)
   | (with_reducible refine LeO.ite ?_ ?_)
   | (with_reducible refine LeO.bind ?_ (fun _ => ?_))
   | exact LeO.none _
   | refine LeO.ite ?_ ?_
   | refine LeO.bind ?_ (fun _ => ?_)
theorem impl_PutWire.mono : ∀ a0 a1 a2 k, LeO (impl_PutWire.f k a0 a1 a2) (impl_PutWire.f (k + 1) a0 a1 a2) := by
 intro a0 a1 a2 k
 obtain ⟨ih0, ih1⟩ := impl_PutWire.mono_l k
 unfold impl_PutWire.f
 repeat' first
  | (with_reducible exact ih0 _ _ _ _)
  | (with_reducible exact LeO.refl _)
  | (with_reducible exact LeO.none _)
  | (with_reducible refine LeO.ite ?_ ?_)
  | (with_reducible refine LeO.bind ?_ (fun _ => ?_))
  | exact LeO.none _
  | refine LeO.ite ?_ ?_
  | refine LeO.bind ?_ (fun _ => ?_)
set_option maxHeartbeats 8000000 in
set_option maxRecDepth 100000 in
theorem impl_PutWire.calls (k : Nat) (a0_0 : Int) (A0_1 : Option Addr) (c0_1 : Nat) (l0_1 : List Int) (a1 : Int) (r1 : Int) (r2 : List Int) (r3 : Bool) (w : World) (hr0_1 : Kd.C (Kd.int .i64) w A0_1 l0_1.length l0_1) (hc0_1 : l0_1.length ≤ c0_1) (h : impl_PutWire.f k a0_0 l0_1 a1 = some (r1, r2, r3)) :
 Calls Try.prog 18 #[.agg #[.int .i64 a0_0, .slice A0_1 l0_1.length c0_1], .int .i64 a1] w fun e w' => ∃ v1_ : Value, e = .returned (.tuple #[.agg #[.int .i64 r1, v1_], .bool r3]) ∧ Kd.R (Kd.int .i64) 3 w' w.heap.size (fun _ => True) v1_ r2 ∧ Below w.heap.size w w' := by
 have hu26 := Try.underlying26
 have HR0_1 := a_ hr0_1
 have HC0_1 := a_ hc0_1
 clear hr0_1 hc0_1
 have HB := a_ (Below.refl w.heap.size w)
 have H : ((impl_isLadder.f a0_0 l0_1).bind fun t424 => (if t424 = true then ((impl_between.f a1 0 a0_0).bind fun t425 => (impl_PutWire.j0 k a1 (!t425) a0_0 l0_1)) else (impl_PutWire.j0 k a1 true a0_0 l0_1))) = some (r1, r2, r3) := h
 clear h
 have HC3 := a_ H
 clear H
 go_enter Try.func18, Try.ntmps18
 go_upto_region 1 with (first | ((with_reducible refine gate_dst (N := 2) rfl ?_); refine bx_ #[.int .i64 a0_0, .slice A0_1 l0_1.length c0_1] 26 ?_ 2; intro gb422 hg w4 hbox hb; have BK422 := a_ (hbox); have GW422 := gw_ HB hg; have GE422 := gw_ HB hg; replace HB := Bs_ HB hb; clear hb hbox hg) | ((with_reducible refine gate_dst (N := 4) rfl ?_); refine bx_ #[.int .i64 0, .slice none 0 0] 26 ?_ 4; intro gb423 hg w5 hbox hb; have BK423 := a_ (hbox); have GW423 := gw_ HB hg; have GE423 := gw_ HB hg; replace HB := Bs_ HB hb; have NB422_423 := nbl_ BK422 hg; have NB423_422 := nbg_ BK422 hg; replace BK422 := blkB_ BK422 hb; clear hb hbox hg))
 (try simp only [Act.put, List.setIfInBounds_toArray, List.set_cons_zero, List.set_cons_succ])
 go_cut [18] (fun v18 wc => ∃ (kq : Nat) (x18_2 : Bool), v18 = .bool x18_2 ∧ Aside0 (impl_PutWire.j0 kq a1 x18_2 a0_0 l0_1 = some (r1, r2, r3)) ∧ Aside0 (kq ≤ k) ∧ Aside0 (wc.heap[gb422]? = some (.cells #[.int .i64 a0_0, (.slice A0_1 l0_1.length c0_1)] 26 (0, 0))) ∧ Aside0 (wc.heap[gb423]? = some (.cells #[.int .i64 0, (.slice none 0 0)] 26 (0, 0))) ∧ Aside0 (Below w.heap.size w wc))
 case first =>
  have H := HC3.out
  clear HC3
  obtain ⟨t424, A6, H⟩ := ob_ H
  (try dsimp only at H)
  by_cases c7 : t424 = true
  rotate_left
  ·replace c7 := Bool.eq_false_iff.mpr c7
   subst c7
   rw [if_neg (show ¬ (false = true) by decide)] at H
   have H' := a_ H
   clear H
   have hnb13 := NB422_423.out
   have hnc13 := NB423_422.out
   have hcz14_0 := cz_ (.int .i64 a0_0) BK422 0
   have hcz14_1 := cz_ (.slice A0_1 l0_1.length c0_1) BK422 1
   have hfz14_0 := fz_ BK422 0
   have hfz14_1 := fz_ BK422 1
   go_wp2_with (first | ((with_reducible refine gate_callee (f := 40) rfl ?_); refine gm_ (some 10) Try.func40 #[.agg #[.int .i64 a0_0, .slice A0_1 l0_1.length c0_1]] rfl ?_; (with_reducible refine (impl_isLadder.calls a0_0 _ _ l0_1 false _ ?side1 ?side2 A6.out).mono ?_); (case side1 => exact Cl_ (Kd.C_below HR0_1.out HB.out)); (case side2 => exact HC0_1.out); rintro e w15 ⟨rfl, hb⟩; refine ⟨_, rfl, ?_⟩; replace BK422 := blkB_ BK422 hb; replace BK423 := blkB_ BK423 hb; replace HB := Bs_ HB hb; (try clear hb); (try clear hb2); (try clear hk); (try clear hi)))
   go_meet
   case rel => exact ⟨_, (true), rs_, H', ⟨by first | omega | exact Nat.le_refl _⟩, ⟨bl_ BK422⟩, ⟨bl_ BK423⟩, ⟨Bl_ HB⟩⟩
  subst c7
  rw [if_pos rfl] at H
  obtain ⟨t425, A8, H⟩ := ob_ H
  (try dsimp only at H)
  have H' := a_ H
  clear H
  have hnb9 := NB422_423.out
  have hnc9 := NB423_422.out
  have hcz10_0 := cz_ (.int .i64 a0_0) BK422 0
  have hcz10_1 := cz_ (.slice A0_1 l0_1.length c0_1) BK422 1
  have hfz10_0 := fz_ BK422 0
  have hfz10_1 := fz_ BK422 1
  go_wp2_with (first | ((with_reducible refine gate_callee (f := 40) rfl ?_); refine gm_ (some 10) Try.func40 #[.agg #[.int .i64 a0_0, .slice A0_1 l0_1.length c0_1]] rfl ?_; (with_reducible refine (impl_isLadder.calls a0_0 _ _ l0_1 true _ ?side1 ?side2 A6.out).mono ?_); (case side1 => exact Cl_ (Kd.C_below HR0_1.out HB.out)); (case side2 => exact HC0_1.out); rintro e w11 ⟨rfl, hb⟩; refine ⟨_, rfl, ?_⟩; replace BK422 := blkB_ BK422 hb; replace BK423 := blkB_ BK423 hb; replace HB := Bs_ HB hb; (try clear hb); (try clear hb2); (try clear hk); (try clear hi); have hcz12_0 := cz_ (.int .i64 a0_0) BK422 0; have hcz12_1 := cz_ (.slice A0_1 l0_1.length c0_1) BK422 1; have hfz12_0 := fz_ BK422 0; have hfz12_1 := fz_ BK422 1) | (go_at_call 51; (with_reducible refine (impl_between.calls a1 0 a0_0 t425 _ A8.out).mono ?_); rintro e w' ⟨rfl, ⟨nd, rfl⟩⟩))
  go_meet
  case rel => exact ⟨_, (!t425), rs_, H', ⟨by first | omega | exact Nat.le_refl _⟩, ⟨bl_ BK422⟩, ⟨bl_ BK423⟩, ⟨Bl_ HB⟩⟩
 case rest =>
  as_aux_lemma =>
  clear HC3
  try clear c1
  try clear p2
  try clear c4
  try clear c7
  try clear c9
  try clear c13
  try clear hcz10_0
  try clear hcz10_1
  try clear hcz12_0
  try clear hcz12_1
  try clear hcz14_0
  try clear hcz14_1
  try clear hfz10_0
  try clear hfz10_1
  try clear hfz12_0
  try clear hfz12_1
  try clear hfz14_0
  try clear hfz14_1
  obtain ⟨kq, x18_2, rfl, HA, HJ2, BK422, BK423, HB⟩ := hcut
  cases kq with
  | zero => exact absurd HA.out (by simp [impl_PutWire.j0])
  | succ kj2 =>
   have H := HA.out
   clear HA
   simp only [impl_PutWire.j0] at H
   by_cases c16 : x18_2 = true
   ·subst c16
    rw [if_pos rfl] at H
    simp only [Option.some.injEq, Prod.mk.injEq] at H
    obtain ⟨rfl, rfl, rfl⟩ := H
    have hnb17 := NB423_422.out
    have hnc17 := NB422_423.out
    have hcz18_0 : wc.cell? ⟨gb423, 0, none⟩ = some (.int .i64 0) := (blk_cell BK423.out 0).trans rfl
    have hcz18_1 : wc.cell? ⟨gb423, 1, none⟩ = some (.slice none 0 0) := (blk_cell BK423.out 1).trans rfl
    have hfz18_0 := fz_ BK423 0
    have hfz18_1 := fz_ BK423 1
    go_wp2
    refine bodyPost_ret (results_ct rfl _ _ gb423 26 #[.int .i64 0, .slice none 0 0] (0, 0) _ rfl (by (with_reducible repeat (first | refine blk_drewN ?_ _ | refine blk_drew ?_ | refine blk_alloc ?_ _)); refine blk_put (cs := #[.int .i64 0, .slice none 0 0]) ?_ 1 _ rfl; (with_reducible repeat (first | refine blk_drewN ?_ _ | refine blk_drew ?_ | refine blk_alloc ?_ _)); refine blk_put (cs := #[.int .i64 0, .slice none 0 0]) ?_ 0 _ rfl; (with_reducible repeat (first | refine blk_drewN ?_ _ | refine blk_drew ?_ | refine blk_alloc ?_ _)); exact BK423.out) Try.underlying26 rfl (by kernel_rfl)) rfl ?_
    exact ⟨_, re_, by first | exact Kd.R_nil _ _ _ _ _ | exact Kd.N_nil _ _ _ _ _ | exact Kd.V_nil _ _ _ _ _ | exact Kd.Q_nil _ _ _ _ _ | exact Kd.S_nil _ _ _ _ _, Bl_ HB⟩
   replace c16 := Bool.eq_false_iff.mpr c16
   subst c16
   rw [if_neg (show ¬ (false = true) by decide)] at H
   have H' := a_ H
   clear H
   have hnb19 := NB422_423.out
   have hnc19 := NB423_422.out
   have hcz20_0 : wc.cell? ⟨gb422, 0, none⟩ = some (.int .i64 a0_0) := (blk_cell BK422.out 0).trans rfl
   have hcz20_1 : wc.cell? ⟨gb422, 1, none⟩ = some (.slice A0_1 l0_1.length c0_1) := (blk_cell BK422.out 1).trans rfl
   have hfz20_0 := fz_ BK422 0
   have hfz20_1 := fz_ BK422 1
   go_wp2_with (first | ((with_reducible refine gate_dst (N := 6) rfl ?_); refine bx_ #[.int .i64 0, .slice none 0 0] 26 ?_ 6; intro gb426 hg w21 hbox hb; have BK426 := a_ (hbox); have GW426 := gw_ HB hg; have GE426 := gw_ HB hg; replace HB := Bs_ HB hb; have NB422_426 := nbl_ BK422 hg; have NB426_422 := nbg_ BK422 hg; replace BK422 := blkB_ BK422 hb; have NB423_426 := nbl_ BK423 hg; have NB426_423 := nbg_ BK423 hg; replace BK423 := blkB_ BK423 hb; clear hb hbox hg; have hnb22 := NB426_422.out; have hnc22 := NB422_426.out; have hnb23 := NB426_423.out; have hnc23 := NB423_426.out; have hcz24_0 := cz_ (.int .i64 0) BK426 0; have hcz24_1 := cz_ (.slice none 0 0) BK426 1; have hfz24_0 := fz_ BK426 0; have hfz24_1 := fz_ BK426 1; have hcz25_0 := cz_ (.int .i64 a0_0) BK422 0; have hcz25_1 := cz_ (.slice A0_1 l0_1.length c0_1) BK422 1; have hfz25_0 := fz_ BK422 0; have hfz25_1 := fz_ BK422 1))
   go_loopg [27] kj2 (fun kq v27 w' => ∃ (x27_2 : Int) (x424000_2 : Int) (x427001_2 : List Int) (u427001 : Value), v27 = .int .i64 x27_2 ∧ Aside0 (impl_PutWire.l0 kq a1 l0_1 (l0_1.length : Int) x27_2 (wrap64 (a0_0 + 1)) x427001_2 = some (r1, r2, r3)) ∧ Aside0 (kq ≤ kj2) ∧ Aside0 (Kd.R (Kd.int .i64) 3 w' w.heap.size (fun _ => True) u427001 x427001_2) ∧ Aside0 (w'.heap[gb422]? = some (.cells #[.int .i64 a0_0, (.slice A0_1 l0_1.length c0_1)] 26 (0, 0))) ∧ Aside0 (w'.heap[gb423]? = some (.cells #[.int .i64 x424000_2, (.slice none 0 0)] 26 (0, 0))) ∧ Aside0 (w'.heap[gb426]? = some (.cells #[.int .i64 (wrap64 (a0_0 + 1)), u427001] 26 (0, 0))) ∧ Aside0 (Below w.heap.size w w'))
   case atStart => exact ⟨(0), (0), (([] : List Int)), (.slice none 0 0), rs_, H', ⟨Nat.le_refl _⟩, ⟨by first | exact Kd.R_nil _ _ _ _ _ | exact Kd.N_nil _ _ _ _ _ | exact Kd.V_nil _ _ _ _ _ | exact Kd.Q_nil _ _ _ _ _ | exact Kd.S_nil _ _ _ _ _⟩, ⟨by (with_reducible repeat (first | refine blk_drewN ?_ _ | refine blk_drew ?_ | refine blk_alloc ?_ _)); refine blk_far ?_ NB422_426.out _; (with_reducible repeat (first | refine blk_drewN ?_ _ | refine blk_drew ?_ | refine blk_alloc ?_ _)); refine blk_far ?_ NB422_426.out _; (with_reducible repeat (first | refine blk_drewN ?_ _ | refine blk_drew ?_ | refine blk_alloc ?_ _)); exact BK422.out⟩, ⟨by (with_reducible repeat (first | refine blk_drewN ?_ _ | refine blk_drew ?_ | refine blk_alloc ?_ _)); refine blk_far ?_ NB423_426.out _; (with_reducible repeat (first | refine blk_drewN ?_ _ | refine blk_drew ?_ | refine blk_alloc ?_ _)); refine blk_far ?_ NB423_426.out _; (with_reducible repeat (first | refine blk_drewN ?_ _ | refine blk_drew ?_ | refine blk_alloc ?_ _)); exact BK423.out⟩, ⟨by (with_reducible repeat (first | refine blk_drewN ?_ _ | refine blk_drew ?_ | refine blk_alloc ?_ _)); refine blk_put (cs := #[.int .i64 (wrap64 (a0_0 + 1)), .slice none 0 0]) ?_ 1 _ rfl; (with_reducible repeat (first | refine blk_drewN ?_ _ | refine blk_drew ?_ | refine blk_alloc ?_ _)); refine blk_put (cs := #[.int .i64 0, .slice none 0 0]) ?_ 0 _ rfl; (with_reducible repeat (first | refine blk_drewN ?_ _ | refine blk_drew ?_ | refine blk_alloc ?_ _)); exact BK426.out⟩, ⟨Bl_ HB⟩⟩
   case round =>
    as_aux_lemma =>
    clear H'
    try clear c1
    try clear c2
    try clear p2
    try clear c4
    try clear p6
    try clear c7
    try clear c9
    try clear c13
    try clear c16
    try clear c17
    try clear c18
    try clear c19
    try clear c22
    try clear c23
    try clear hcz10_0
    try clear hcz10_1
    try clear hcz12_0
    try clear hcz12_1
    try clear hcz14_0
    try clear hcz14_1
    try clear hcz18_0
    try clear hcz18_1
    try clear hcz20_0
    try clear hcz20_1
    try clear hcz24_0
    try clear hcz24_1
    try clear hcz25_0
    try clear hcz25_1
    try clear hfz10_0
    try clear hfz10_1
    try clear hfz12_0
    try clear hfz12_1
    try clear hfz14_0
    try clear hfz14_1
    try clear hfz18_0
    try clear hfz18_1
    try clear hfz20_0
    try clear hfz20_1
    try clear hfz24_0
    try clear hfz24_1
    try clear hfz25_0
    try clear hfz25_1
    try clear p2
    obtain ⟨x27_2, x424000_2, x427001_2, u427001, rfl, HA, HK2, HO_427001, BK422, BK423, BK426, HB⟩ := hrel
    cases gk with
    | zero => exact absurd HA.out (by simp [impl_PutWire.l0])
    | succ k2 =>
     have H := HA.out
     clear HA
     simp only [impl_PutWire.l0] at H
     by_cases c26 : x27_2 < (l0_1.length : Int)
     rotate_left
     ·rw [if_neg c26] at H
      have c26b0 : decide (x27_2 < (l0_1.length : Int)) = false := decide_eq_false c26
      clear c26
      obtain ⟨⟨t427, t428, t431⟩, A48, H⟩ := ob_ H
      (try dsimp only at H)
      simp only [Option.some.injEq, Prod.mk.injEq] at H
      obtain ⟨rfl, rfl, rfl⟩ := H
      have hnb49 := NB426_422.out
      have hnc49 := NB422_426.out
      have hnb50 := NB426_423.out
      have hnc50 := NB423_426.out
      have hcz51_0 : wr.cell? ⟨gb426, 0, none⟩ = some (.int .i64 (wrap64 (a0_0 + 1))) := (blk_cell BK426.out 0).trans rfl
      have hcz51_1 : wr.cell? ⟨gb426, 1, none⟩ = some (u427001) := (blk_cell BK426.out 1).trans rfl
      have hfz51_0 := fz_ BK426 0
      have hfz51_1 := fz_ BK426 1
      obtain ⟨Ao52, co52, eo52⟩ := Kd.R_slice HO_427001.out
      subst eo52
      go_wp2_with (first | ((with_reducible refine gate_callee (f := 52) rfl ?_); refine gm_ (some 51) Try.func52 #[.agg #[.int .i64 (wrap64 (a0_0 + 1)), .slice Ao52 x427001_2.length co52]] rfl ?_; (with_reducible refine (impl_checked.calls (wrap64 (a0_0 + 1)) (fun k_ => some k_ = (.slice Ao52 x427001_2.length co52 : Value).ownBlock) (.slice Ao52 x427001_2.length co52) x427001_2 t427 t428 t431 w _ ?side1 ?side2 A48.out).mono ?_); (case side1 => repeat (first | (with_reducible first | exact HB.out | apply below_alloc | apply pw_below_drewN | apply below_drew1 | refine below_set ?_ GE422.out | refine below_set ?_ GE423.out | refine below_set ?_ GE426.out) | exact HB.out)); (case side2 => exact Kd.R_tight rfl HO_427001.out); rintro e w53 ⟨v429, rfl, ho0, hb, hkp⟩; refine ⟨_, rfl, ?_⟩; replace BK422 := a_ (blk_kept (bl_ BK422) hkp (fun hs_ => (fun e_ => (Kd.R_ne HO_427001.out BK422.out (by decide)) e_) hs_)); replace BK423 := a_ (blk_kept (bl_ BK423) hkp (fun hs_ => (fun e_ => (Kd.R_ne HO_427001.out BK423.out (by decide)) e_) hs_)); replace BK426 := a_ (blk_kept (bl_ BK426) hkp (fun hs_ => (fun e_ => (Kd.R_ne HO_427001.out BK426.out (by decide)) e_) hs_)); have HO430 := a_ (Kd.R_mono (ok' := fun k_ => True) ho0 (fun k_ hk_ => trivial)); replace HB := a_ (hb); clear HO_427001; (try clear hb); (try clear hkp); (try clear ho0); have hnb54 := NB423_422.out; have hnc54 := NB422_423.out; have hcz55_0 := cz_ (.int .i64 x424000_2) BK423 0; have hcz55_1 := cz_ (.slice none 0 0) BK423 1; have hfz55_0 := fz_ BK423 0; have hfz55_1 := fz_ BK423 1; obtain ⟨Ao56, co56, eo56⟩ := Kd.R_slice HO430.out; subst eo56))
      refine bodyPost_ret (results_ct rfl _ _ gb423 26 #[.int .i64 t427, .slice Ao56 t428.length co56] (0, 0) _ rfl (by (with_reducible repeat (first | refine blk_drewN ?_ _ | refine blk_drew ?_ | refine blk_alloc ?_ _)); refine blk_put (cs := #[.int .i64 t427, .slice none 0 0]) ?_ 1 _ rfl; (with_reducible repeat (first | refine blk_drewN ?_ _ | refine blk_drew ?_ | refine blk_alloc ?_ _)); refine blk_put (cs := #[.int .i64 x424000_2, .slice none 0 0]) ?_ 0 _ rfl; (with_reducible repeat (first | refine blk_drewN ?_ _ | refine blk_drew ?_ | refine blk_alloc ?_ _)); exact BK423.out) Try.underlying26 rfl (by kernel_rfl)) rfl ?_
      exact ⟨_, re_, by (with_reducible repeat (first | apply Kd.R_alloc | apply Kd.R_drewN | apply Kd.R_drew)); exact Kd.R_mono (Kd.R_far (p := ⟨gb423, 1, none⟩) (Kd.R_far (p := ⟨gb423, 0, none⟩) (Kd.R_types HO430.out BK423.out (by decide)) (fun _ hk => hk.2) (.int .i64 t427)) (fun _ hk => hk.2) (.slice Ao56 t428.length co56)) (fun _ hk => trivial), Bl_ HB⟩
     rw [if_pos c26] at H
     have c26b0 : decide (x27_2 < (l0_1.length : Int)) = true := decide_eq_true c26
     clear c26
     by_cases c27 : 0 ≤ x27_2
     rotate_left
     ·rw [if_neg c27] at H
      cases H
     rw [if_pos c27] at H
     have c27b0 : decide (0 ≤ x27_2) = true := decide_eq_true c27
     clear c27
     by_cases c28 : x27_2 < (l0_1.length : Int)
     rotate_left
     ·rw [if_neg c28] at H
      cases H
     rw [if_pos c28] at H
     have c28b0 : decide (x27_2 < (l0_1.length : Int)) = true := decide_eq_true c28
     clear c28
     by_cases c29 : (rd l0_1 x27_2) = (wrap64 (a1 - 1))
     ·rw [if_pos c29] at H
      have c29b0 : ((rd l0_1 x27_2) == (wrap64 (a1 - 1))) = true := beq_iff_eq.mpr c29
      have c29b1 : ((rd l0_1 x27_2) != (wrap64 (a1 - 1))) = false := bne_eq_false_iff_eq.mpr c29
      clear c29
      simp only [Option.some.injEq, Prod.mk.injEq] at H
      obtain ⟨rfl, rfl, rfl⟩ := H
      have p432 : 0 ≤ (x27_2 : Int) := od_
      have q432 : x27_2 < (l0_1.length : Int) := od_
      obtain ⟨ad432, e432, hx432_0⟩ := Kd.at_int HR0_1.out x27_2 p432 q432
      cases e432
      replace hx432_0 := (HB.out.cell (World.block_lt_of_cell? w _ hx432_0)).trans hx432_0
      replace p432 := eq_true p432
      replace q432 := eq_true q432
      have hnb30 := NB423_422.out
      have hnc30 := NB422_423.out
      have hnb31 := NB423_426.out
      have hnc31 := NB426_423.out
      have hcz32_0 : wr.cell? ⟨gb423, 0, none⟩ = some (.int .i64 x424000_2) := (blk_cell BK423.out 0).trans rfl
      have hcz32_1 : wr.cell? ⟨gb423, 1, none⟩ = some (.slice none 0 0) := (blk_cell BK423.out 1).trans rfl
      have hfz32_0 := fz_ BK423 0
      have hfz32_1 := fz_ BK423 1
      go_wp2
      refine bodyPost_ret (results_ct rfl _ _ gb423 26 #[.int .i64 0, .slice none 0 0] (0, 0) _ rfl (by (with_reducible repeat (first | refine blk_drewN ?_ _ | refine blk_drew ?_ | refine blk_alloc ?_ _)); refine blk_put (cs := #[.int .i64 0, .slice none 0 0]) ?_ 1 _ rfl; (with_reducible repeat (first | refine blk_drewN ?_ _ | refine blk_drew ?_ | refine blk_alloc ?_ _)); refine blk_put (cs := #[.int .i64 x424000_2, .slice none 0 0]) ?_ 0 _ rfl; (with_reducible repeat (first | refine blk_drewN ?_ _ | refine blk_drew ?_ | refine blk_alloc ?_ _)); exact BK423.out) Try.underlying26 rfl (by kernel_rfl)) rfl ?_
      exact ⟨_, re_, by first | exact Kd.R_nil _ _ _ _ _ | exact Kd.N_nil _ _ _ _ _ | exact Kd.V_nil _ _ _ _ _ | exact Kd.Q_nil _ _ _ _ _ | exact Kd.S_nil _ _ _ _ _, Bl_ HB⟩
     rw [if_neg c29] at H
     have c29b0 : ((rd l0_1 x27_2) == (wrap64 (a1 - 1))) = false := beq_eq_false_iff_ne.mpr c29
     have c29b1 : ((rd l0_1 x27_2) != (wrap64 (a1 - 1))) = true := bne_iff_ne.mpr c29
     by_cases c33 : (rd l0_1 x27_2) ≥ a1
     ·rw [if_pos c33] at H
      have c33b0 : decide (a1 ≤ (rd l0_1 x27_2)) = true := decide_eq_true c33
      clear c33
      by_cases c34 : x427001_2.length < 17592186044416
      rotate_left
      ·rw [if_neg c34] at H
       cases H
      rw [if_pos c34] at H
      have LMc34 := a_ c34
      clear c34
      obtain ⟨y433, hy433⟩ : ∃ y_ : List Int, y_ = (x427001_2 ++ [wrap64 ((rd l0_1 x27_2) + 1)]) := ⟨_, rfl⟩
      replace H : (impl_PutWire.l0 k2 a1 l0_1 (l0_1.length : Int) (wrap64 (x27_2 + 1)) (wrap64 (a0_0 + 1)) y433) = some (r1, r2, r3) := by first | (rw [hy433]; with_reducible exact H) | (have H2_ := (Option.bind_some _ _).symm.trans H; rw [hy433]; with_reducible exact H2_) | (have H2_ := (Option.bind_some _ _).symm.trans H; with_reducible exact H2_) | with_reducible exact H | (rw [hy433]; exact H) | exact H
      have Ny433 := a_ hy433
      clear hy433
      have H' := a_ H
      clear H
      have p432 : 0 ≤ (x27_2 : Int) := od_
      have q432 : x27_2 < (l0_1.length : Int) := od_
      obtain ⟨ad432, e432, hx432_0⟩ := Kd.at_int HR0_1.out x27_2 p432 q432
      cases e432
      replace hx432_0 := (HB.out.cell (World.block_lt_of_cell? w _ hx432_0)).trans hx432_0
      replace p432 := eq_true p432
      replace q432 := eq_true q432
      have hnb35 := NB426_422.out
      have hnc35 := NB422_426.out
      have hnb36 := NB426_423.out
      have hnc36 := NB423_426.out
      have hcz37_0 : wr.cell? ⟨gb426, 0, none⟩ = some (.int .i64 (wrap64 (a0_0 + 1))) := (blk_cell BK426.out 0).trans rfl
      have hcz37_1 : wr.cell? ⟨gb426, 1, none⟩ = some (u427001) := (blk_cell BK426.out 1).trans rfl
      have hfz37_0 := fz_ BK426 0
      have hfz37_1 := fz_ BK426 1
      go_wp2_with (first | ((with_reducible refine gate_builtin (b := .append) (xs := #[.tmp 44, .tmp 46]) rfl ?_); at_builtin; refine Kd.R_append (Kd.int .i64) (w0 := w) w.heap.size rfl (.tmp 44) (.tmp 46) 24 3 (.int .i64 0) 8 rfl Try.underlying24 info3 rfl (by decide) (by omega) u427001 x427001_2 (wrap64 ((rd l0_1 x27_2) + 1)) [.int .i64 (wrap64 ((rd l0_1 x27_2) + 1))] (fun _ => True) (fun _ => False) rfl rfl ?aP (fun _ hk => hk.elim) ?aF ?aO ?aB ?aS ?aL ?_; (case aP => exact rfl); (case aB => exact (Bl_ HB)); (case aF => exact (fun _ _ => trivial)); (case aO => exact (Rl_ HO_427001.out)); (case aS => exact (below_size (Bl_ HB))); (case aL => have := LMc34.out; omega); intro v434 w38 ho hb hg hat; rw [← Ny433.out] at ho; replace BK422 := a_ (blk_grown (g := gb422) (o := .cells #[.int .i64 a0_0, .slice (some ad432) l0_1.length c0_1] 26 (0, 0)) (bl_ BK422) hg (Kd.R_ne HO_427001.out BK422.out (by decide))); replace BK423 := a_ (blk_grown (g := gb423) (o := .cells #[.int .i64 x424000_2, .slice none 0 0] 26 (0, 0)) (bl_ BK423) hg (Kd.R_ne HO_427001.out BK423.out (by decide))); replace BK426 := a_ (blk_grown (g := gb426) (o := .cells #[.int .i64 (wrap64 (a0_0 + 1)), u427001] 26 (0, 0)) (bl_ BK426) hg (Kd.R_ne HO_427001.out BK426.out (by decide))); replace HB := a_ (hb); have HO435 := a_ (ho); clear HO_427001; clear ho hb hg hat; obtain ⟨Ao39, co39, eo39⟩ := Kd.R_slice HO435.out; subst eo39; have hcz40_0 := cz_ (.int .i64 (wrap64 (a0_0 + 1))) BK426 0; have hcz40_1 := cz_ (u427001) BK426 1; have hfz40_0 := fz_ BK426 0; have hfz40_1 := fz_ BK426 1))
      go_roundg k2
      case measure => have := HJ2.out; have := HK2.out; omega
      case rel => exact ⟨(wrap64 (x27_2 + 1)), (x424000_2), (y433), (.slice Ao39 y433.length co39), rs_, H', ⟨by have := HJ2.out; have := HK2.out; omega⟩, ⟨Rl_ (Kd.R_mono (Kd.R_far (p := ⟨gb426, 1, none⟩) (Kd.R_types HO435.out BK426.out (by decide)) (fun _ hk => hk.2) (.slice Ao39 y433.length co39)) (fun _ hk => trivial))⟩, ⟨by (with_reducible repeat (first | refine blk_drewN ?_ _ | refine blk_drew ?_ | refine blk_alloc ?_ _)); refine blk_far ?_ NB422_426.out _; (with_reducible repeat (first | refine blk_drewN ?_ _ | refine blk_drew ?_ | refine blk_alloc ?_ _)); exact BK422.out⟩, ⟨by (with_reducible repeat (first | refine blk_drewN ?_ _ | refine blk_drew ?_ | refine blk_alloc ?_ _)); refine blk_far ?_ NB423_426.out _; (with_reducible repeat (first | refine blk_drewN ?_ _ | refine blk_drew ?_ | refine blk_alloc ?_ _)); exact BK423.out⟩, ⟨by (with_reducible repeat (first | refine blk_drewN ?_ _ | refine blk_drew ?_ | refine blk_alloc ?_ _)); refine blk_put (cs := #[.int .i64 (wrap64 (a0_0 + 1)), u427001]) ?_ 1 _ rfl; (with_reducible repeat (first | refine blk_drewN ?_ _ | refine blk_drew ?_ | refine blk_alloc ?_ _)); exact BK426.out⟩, ⟨Bl_ HB⟩⟩
     rw [if_neg c33] at H
     have c33b0 : decide (a1 ≤ (rd l0_1 x27_2)) = false := decide_eq_false c33
     clear c33
     by_cases c41 : x427001_2.length < 17592186044416
     rotate_left
     ·rw [if_neg c41] at H
      cases H
     rw [if_pos c41] at H
     have LMc41 := a_ c41
     clear c41
     obtain ⟨y436, hy436⟩ : ∃ y_ : List Int, y_ = (x427001_2 ++ [rd l0_1 x27_2]) := ⟨_, rfl⟩
     replace H : (impl_PutWire.l0 k2 a1 l0_1 (l0_1.length : Int) (wrap64 (x27_2 + 1)) (wrap64 (a0_0 + 1)) y436) = some (r1, r2, r3) := by first | (rw [hy436]; with_reducible exact H) | (have H2_ := (Option.bind_some _ _).symm.trans H; rw [hy436]; with_reducible exact H2_) | (have H2_ := (Option.bind_some _ _).symm.trans H; with_reducible exact H2_) | with_reducible exact H | (rw [hy436]; exact H) | exact H
     have Ny436 := a_ hy436
     clear hy436
     have H' := a_ H
     clear H
     have p432 : 0 ≤ (x27_2 : Int) := od_
     have q432 : x27_2 < (l0_1.length : Int) := od_
     obtain ⟨ad432, e432, hx432_0⟩ := Kd.at_int HR0_1.out x27_2 p432 q432
     cases e432
     replace hx432_0 := (HB.out.cell (World.block_lt_of_cell? w _ hx432_0)).trans hx432_0
     replace p432 := eq_true p432
     replace q432 := eq_true q432
     have hnb42 := NB426_422.out
     have hnc42 := NB422_426.out
     have hnb43 := NB426_423.out
     have hnc43 := NB423_426.out
     have hcz44_0 : wr.cell? ⟨gb426, 0, none⟩ = some (.int .i64 (wrap64 (a0_0 + 1))) := (blk_cell BK426.out 0).trans rfl
     have hcz44_1 : wr.cell? ⟨gb426, 1, none⟩ = some (u427001) := (blk_cell BK426.out 1).trans rfl
     have hfz44_0 := fz_ BK426 0
     have hfz44_1 := fz_ BK426 1
     go_wp2_with (first | ((with_reducible refine gate_builtin (b := .append) (xs := #[.tmp 44, .tmp 46]) rfl ?_); at_builtin; refine Kd.R_append (Kd.int .i64) (w0 := w) w.heap.size rfl (.tmp 44) (.tmp 46) 24 3 (.int .i64 0) 8 rfl Try.underlying24 info3 rfl (by decide) (by omega) u427001 x427001_2 (rd l0_1 x27_2) [.int .i64 (rd l0_1 x27_2)] (fun _ => True) (fun _ => False) rfl rfl ?aP (fun _ hk => hk.elim) ?aF ?aO ?aB ?aS ?aL ?_; (case aP => exact rfl); (case aB => exact (Bl_ HB)); (case aF => exact (fun _ _ => trivial)); (case aO => exact (Rl_ HO_427001.out)); (case aS => exact (below_size (Bl_ HB))); (case aL => have := LMc41.out; omega); intro v437 w45 ho hb hg hat; rw [← Ny436.out] at ho; replace BK422 := a_ (blk_grown (g := gb422) (o := .cells #[.int .i64 a0_0, .slice (some ad432) l0_1.length c0_1] 26 (0, 0)) (bl_ BK422) hg (Kd.R_ne HO_427001.out BK422.out (by decide))); replace BK423 := a_ (blk_grown (g := gb423) (o := .cells #[.int .i64 x424000_2, .slice none 0 0] 26 (0, 0)) (bl_ BK423) hg (Kd.R_ne HO_427001.out BK423.out (by decide))); replace BK426 := a_ (blk_grown (g := gb426) (o := .cells #[.int .i64 (wrap64 (a0_0 + 1)), u427001] 26 (0, 0)) (bl_ BK426) hg (Kd.R_ne HO_427001.out BK426.out (by decide))); replace HB := a_ (hb); have HO438 := a_ (ho); clear HO_427001; clear ho hb hg hat; obtain ⟨Ao46, co46, eo46⟩ := Kd.R_slice HO438.out; subst eo46; have hcz47_0 := cz_ (.int .i64 (wrap64 (a0_0 + 1))) BK426 0; have hcz47_1 := cz_ (u427001) BK426 1; have hfz47_0 := fz_ BK426 0; have hfz47_1 := fz_ BK426 1))
     go_roundg k2
     case measure => have := HJ2.out; have := HK2.out; omega
     case rel => exact ⟨(wrap64 (x27_2 + 1)), (x424000_2), (y436), (.slice Ao46 y436.length co46), rs_, H', ⟨by have := HJ2.out; have := HK2.out; omega⟩, ⟨Rl_ (Kd.R_mono (Kd.R_far (p := ⟨gb426, 1, none⟩) (Kd.R_types HO438.out BK426.out (by decide)) (fun _ hk => hk.2) (.slice Ao46 y436.length co46)) (fun _ hk => trivial))⟩, ⟨by (with_reducible repeat (first | refine blk_drewN ?_ _ | refine blk_drew ?_ | refine blk_alloc ?_ _)); refine blk_far ?_ NB422_426.out _; (with_reducible repeat (first | refine blk_drewN ?_ _ | refine blk_drew ?_ | refine blk_alloc ?_ _)); exact BK422.out⟩, ⟨by (with_reducible repeat (first | refine blk_drewN ?_ _ | refine blk_drew ?_ | refine blk_alloc ?_ _)); refine blk_far ?_ NB423_426.out _; (with_reducible repeat (first | refine blk_drewN ?_ _ | refine blk_drew ?_ | refine blk_alloc ?_ _)); exact BK423.out⟩, ⟨by (with_reducible repeat (first | refine blk_drewN ?_ _ | refine blk_drew ?_ | refine blk_alloc ?_ _)); refine blk_put (cs := #[.int .i64 (wrap64 (a0_0 + 1)), u427001]) ?_ 1 _ rfl; (with_reducible repeat (first | refine blk_drewN ?_ _ | refine blk_drew ?_ | refine blk_alloc ?_ _)); exact BK426.out⟩, ⟨Bl_ HB⟩⟩

/-! ### spec_laIf: function 54 -/
def spec_laIf.f (k : Nat) (a0_0 : Int) (l0_1 : List Int) : Option (Int × List Int × Bool) := (spec_laGood.f k a0_0 l0_1).bind fun t441 => (if t441 = true then (some (a0_0, l0_1, true)) else (some (0, ([] : List Int), false)))
theorem spec_laIf.mono : ∀ a0 a1 k, LeO (spec_laIf.f k a0 a1) (spec_laIf.f (k + 1) a0 a1) := by
 intro a0 a1 k
 unfold spec_laIf.f
 repeat' first
  | (with_reducible exact spec_laGood.mono _ _ _)
  | (with_reducible exact LeO.refl _)
  | (with_reducible exact LeO.none _)
  | (with_reducible refine LeO.ite ?_ ?_)
  | (with_reducible refine LeO.bind ?_ (fun _ => ?_))
  | exact LeO.none _
  | refine LeO.ite ?_ ?_
  | refine LeO.bind ?_ (fun _ => ?_)
set_option maxHeartbeats 8000000 in
set_option maxRecDepth 100000 in
theorem spec_laIf.calls (k : Nat) (a0_0 : Int) (P0_1_ : Nat → Prop) (u9000_ : Value) (l0_1 : List Int) (r1 : Int) (r2 : List Int) (r3 : Bool) (w0 w : World) (hB : Below w0.heap.size w0 w) (ho0_1 : Kd.R (Kd.int .i64) 3 w w0.heap.size P0_1_ u9000_ l0_1) (h : spec_laIf.f k a0_0 l0_1 = some (r1, r2, r3)) :
 Calls Try.prog 54 #[.agg #[.int .i64 a0_0, u9000_]] w fun e w' => ∃ v1_ : Value, e = .returned (.tuple #[.agg #[.int .i64 r1, v1_], .bool r3]) ∧ Kd.R (Kd.int .i64) 3 w' w0.heap.size (fun k_ => (P0_1_ k_ ∨ w.heap.size ≤ k_)) v1_ r2 ∧ Below w0.heap.size w0 w' ∧ Kept w w' (fun k_ => P0_1_ k_) := by
 have hu26 := Try.underlying26
 have HO0_1 := a_ (show Kd.R (Kd.int .i64) 3 w w0.heap.size (fun k_ => (P0_1_ k_ ∨ w.heap.size ≤ k_)) u9000_ l0_1 from Kd.R_mono ho0_1 (fun k_ hk => (.inl hk)))
 have HK := a_ (Kept.refl w (fun k_ => P0_1_ k_))
 have HW0 := a_ hB.size
 have HB := a_ hB
 clear hB
 have H : ((spec_laGood.f k a0_0 l0_1).bind fun t441 => (if t441 = true then (some (a0_0, l0_1, true)) else (some (0, ([] : List Int), false)))) = some (r1, r2, r3) := h
 clear h
 obtain ⟨t441, A2, H⟩ := ob_ H
 (try dsimp only at H)
 by_cases c3 : t441 = true
 ·subst c3
  rw [if_pos rfl] at H
  simp only [Option.some.injEq, Prod.mk.injEq] at H
  obtain ⟨rfl, rfl, rfl⟩ := H
  obtain ⟨Ao4, co4, eo4⟩ := Kd.R_slice HO0_1.out
  subst eo4
  go_enter Try.func54, Try.ntmps54
  go_wp2_with (first | ((with_reducible refine gate_dst (N := 1) rfl ?_); refine bx_ #[.int .i64 a0_0, .slice Ao4 l0_1.length co4] 26 ?_ 1; intro gb439 hg w5 hbox hb; replace HO0_1 := a_ (Kd.R_below (Rl_ HO0_1.out) hb); have BK439 := a_ (hbox); have GW439 := a_ ((by rw [hg]; exact (by first | exact HK.out.1 | exact (show Kept w _ (fun k_ => P0_1_ k_) from by repeat (first | (with_reducible first | exact HK.out | apply Kept.alloc | apply Kept.drewN | apply Kept.drew) | exact HK.out)).1) : w.heap.size ≤ gb439)); replace HK := a_ (Kept.below (S := (fun k_ => P0_1_ k_)) (by repeat (first | (with_reducible first | exact HK.out | apply Kept.alloc | apply Kept.drewN | apply Kept.drew) | exact HK.out)) hb); have GE439 := a_ ((by rw [hg]; exact (below_size (Bl_ HB)) : w0.heap.size ≤ gb439)); replace HB := Bs_ HB hb; clear hb hbox hg) | ((with_reducible refine gate_dst (N := 2) rfl ?_); refine bx_ #[.int .i64 0, .slice none 0 0] 26 ?_ 2; intro gb440 hg w6 hbox hb; replace HO0_1 := a_ (Kd.R_below (Rl_ HO0_1.out) hb); have BK440 := a_ (hbox); have GW440 := a_ ((by rw [hg]; exact (by first | exact HK.out.1 | exact (show Kept w _ (fun k_ => P0_1_ k_) from by repeat (first | (with_reducible first | exact HK.out | apply Kept.alloc | apply Kept.drewN | apply Kept.drew | refine Kept.setCell ?_ (.inr GW439.out) _) | exact HK.out)).1) : w.heap.size ≤ gb440)); replace HK := a_ (Kept.below (S := (fun k_ => P0_1_ k_)) (by repeat (first | (with_reducible first | exact HK.out | apply Kept.alloc | apply Kept.drewN | apply Kept.drew | refine Kept.setCell ?_ (.inr GW439.out) _) | exact HK.out)) hb); have GE440 := a_ ((by rw [hg]; exact (below_size (Bl_ HB)) : w0.heap.size ≤ gb440)); replace HB := Bs_ HB hb; have NB439_440 := nbl_ BK439 hg; have NB440_439 := nbg_ BK439 hg; replace BK439 := blkB_ BK439 hb; clear hb hbox hg; have hnb7 := NB439_440.out; have hnc7 := NB440_439.out; have hcz8_0 := cz_ (.int .i64 a0_0) BK439 0; have hcz8_1 := cz_ (.slice Ao4 l0_1.length co4) BK439 1; have hfz8_0 := fz_ BK439 0; have hfz8_1 := fz_ BK439 1) | ((with_reducible refine gate_callee (f := 45) rfl ?_); refine gm_ (some 5) Try.func45 #[.agg #[.int .i64 a0_0, .slice Ao4 l0_1.length co4]] rfl ?_; (with_reducible refine (spec_laGood.calls k a0_0 _ _ l0_1 true _ ?side1 ?side2 A2.out).mono ?_); (case side1 => exact Cl_ (Kd.R_reads' HO0_1.out).2.2); (case side2 => exact (Kd.R_reads' HO0_1.out).2.1); rintro e w9 ⟨rfl, hb⟩; refine ⟨_, rfl, ?_⟩; replace HO0_1 := a_ (Kd.R_below (Rl_ HO0_1.out) hb); replace BK439 := blkB_ BK439 hb; replace BK440 := blkB_ BK440 hb; replace HK := a_ (Kept.below (S := (fun k_ => P0_1_ k_)) (by repeat (first | (with_reducible first | exact HK.out | apply Kept.alloc | apply Kept.drewN | apply Kept.drew | refine Kept.setCell ?_ (.inr GW439.out) _ | refine Kept.setCell ?_ (.inr GW440.out) _) | exact HK.out)) hb); replace HB := Bs_ HB hb; (try clear hb); (try clear hb2); (try clear hk); (try clear hi); have hcz10_0 := cz_ (.int .i64 a0_0) BK439 0; have hcz10_1 := cz_ (.slice Ao4 l0_1.length co4) BK439 1; have hfz10_0 := fz_ BK439 0; have hfz10_1 := fz_ BK439 1; have hcz11_0 := cz_ (.int .i64 0) BK440 0; have hcz11_1 := cz_ (.slice none 0 0) BK440 1; have hfz11_0 := fz_ BK440 0; have hfz11_1 := fz_ BK440 1))
  refine bodyPost_ret (results_ct rfl _ _ gb440 26 #[.int .i64 a0_0, .slice Ao4 l0_1.length co4] (0, 0) _ rfl (by (with_reducible repeat (first | refine blk_drewN ?_ _ | refine blk_drew ?_ | refine blk_alloc ?_ _)); refine blk_put (cs := #[.int .i64 a0_0, .slice none 0 0]) ?_ 1 _ rfl; (with_reducible repeat (first | refine blk_drewN ?_ _ | refine blk_drew ?_ | refine blk_alloc ?_ _)); refine blk_put (cs := #[.int .i64 0, .slice none 0 0]) ?_ 0 _ rfl; (with_reducible repeat (first | refine blk_drewN ?_ _ | refine blk_drew ?_ | refine blk_alloc ?_ _)); exact BK440.out) Try.underlying26 rfl (by kernel_rfl)) rfl ?_
  exact ⟨_, re_, by (with_reducible repeat (first | apply Kd.R_alloc | apply Kd.R_drewN | apply Kd.R_drew)); exact Kd.R_mono (Kd.R_far (p := ⟨gb440, 1, none⟩) (Kd.R_far (p := ⟨gb440, 0, none⟩) (Kd.R_types HO0_1.out BK440.out (by decide)) (fun _ hk => hk.2) (.int .i64 a0_0)) (fun _ hk => hk.2) (.slice Ao4 l0_1.length co4)) (fun _ hk => hk.1), Bl_ HB, by repeat (first | (with_reducible first | exact HK.out | apply Kept.alloc | apply Kept.drewN | apply Kept.drew | refine Kept.setCell ?_ (.inr GW439.out) _ | refine Kept.setCell ?_ (.inr GW440.out) _) | exact HK.out)⟩
 replace c3 := Bool.eq_false_iff.mpr c3
 subst c3
 rw [if_neg (show ¬ (false = true) by decide)] at H
 simp only [Option.some.injEq, Prod.mk.injEq] at H
 obtain ⟨rfl, rfl, rfl⟩ := H
 obtain ⟨Ao12, co12, eo12⟩ := Kd.R_slice HO0_1.out
 subst eo12
 go_enter Try.func54, Try.ntmps54
 go_wp2_with (first | ((with_reducible refine gate_dst (N := 1) rfl ?_); refine bx_ #[.int .i64 a0_0, .slice Ao12 l0_1.length co12] 26 ?_ 1; intro gb439 hg w13 hbox hb; replace HO0_1 := a_ (Kd.R_below (Rl_ HO0_1.out) hb); have BK439 := a_ (hbox); have GW439 := a_ ((by rw [hg]; exact (by first | exact HK.out.1 | exact (show Kept w _ (fun k_ => P0_1_ k_) from by repeat (first | (with_reducible first | exact HK.out | apply Kept.alloc | apply Kept.drewN | apply Kept.drew) | exact HK.out)).1) : w.heap.size ≤ gb439)); replace HK := a_ (Kept.below (S := (fun k_ => P0_1_ k_)) (by repeat (first | (with_reducible first | exact HK.out | apply Kept.alloc | apply Kept.drewN | apply Kept.drew) | exact HK.out)) hb); have GE439 := a_ ((by rw [hg]; exact (below_size (Bl_ HB)) : w0.heap.size ≤ gb439)); replace HB := Bs_ HB hb; clear hb hbox hg) | ((with_reducible refine gate_dst (N := 2) rfl ?_); refine bx_ #[.int .i64 0, .slice none 0 0] 26 ?_ 2; intro gb440 hg w14 hbox hb; replace HO0_1 := a_ (Kd.R_below (Rl_ HO0_1.out) hb); have BK440 := a_ (hbox); have GW440 := a_ ((by rw [hg]; exact (by first | exact HK.out.1 | exact (show Kept w _ (fun k_ => P0_1_ k_) from by repeat (first | (with_reducible first | exact HK.out | apply Kept.alloc | apply Kept.drewN | apply Kept.drew | refine Kept.setCell ?_ (.inr GW439.out) _) | exact HK.out)).1) : w.heap.size ≤ gb440)); replace HK := a_ (Kept.below (S := (fun k_ => P0_1_ k_)) (by repeat (first | (with_reducible first | exact HK.out | apply Kept.alloc | apply Kept.drewN | apply Kept.drew | refine Kept.setCell ?_ (.inr GW439.out) _) | exact HK.out)) hb); have GE440 := a_ ((by rw [hg]; exact (below_size (Bl_ HB)) : w0.heap.size ≤ gb440)); replace HB := Bs_ HB hb; have NB439_440 := nbl_ BK439 hg; have NB440_439 := nbg_ BK439 hg; replace BK439 := blkB_ BK439 hb; clear hb hbox hg; have hnb15 := NB439_440.out; have hnc15 := NB440_439.out; have hcz16_0 := cz_ (.int .i64 a0_0) BK439 0; have hcz16_1 := cz_ (.slice Ao12 l0_1.length co12) BK439 1; have hfz16_0 := fz_ BK439 0; have hfz16_1 := fz_ BK439 1) | ((with_reducible refine gate_callee (f := 45) rfl ?_); refine gm_ (some 5) Try.func45 #[.agg #[.int .i64 a0_0, .slice Ao12 l0_1.length co12]] rfl ?_; (with_reducible refine (spec_laGood.calls k a0_0 _ _ l0_1 false _ ?side1 ?side2 A2.out).mono ?_); (case side1 => exact Cl_ (Kd.R_reads' HO0_1.out).2.2); (case side2 => exact (Kd.R_reads' HO0_1.out).2.1); rintro e w17 ⟨rfl, hb⟩; refine ⟨_, rfl, ?_⟩; replace HO0_1 := a_ (Kd.R_below (Rl_ HO0_1.out) hb); replace BK439 := blkB_ BK439 hb; replace BK440 := blkB_ BK440 hb; replace HK := a_ (Kept.below (S := (fun k_ => P0_1_ k_)) (by repeat (first | (with_reducible first | exact HK.out | apply Kept.alloc | apply Kept.drewN | apply Kept.drew | refine Kept.setCell ?_ (.inr GW439.out) _ | refine Kept.setCell ?_ (.inr GW440.out) _) | exact HK.out)) hb); replace HB := Bs_ HB hb; (try clear hb); (try clear hb2); (try clear hk); (try clear hi); have hcz18_0 := cz_ (.int .i64 0) BK440 0; have hcz18_1 := cz_ (.slice none 0 0) BK440 1; have hfz18_0 := fz_ BK440 0; have hfz18_1 := fz_ BK440 1))
 refine bodyPost_ret (results_ct rfl _ _ gb440 26 #[.int .i64 0, .slice none 0 0] (0, 0) _ rfl (by (with_reducible repeat (first | refine blk_drewN ?_ _ | refine blk_drew ?_ | refine blk_alloc ?_ _)); refine blk_put (cs := #[.int .i64 0, .slice none 0 0]) ?_ 1 _ rfl; (with_reducible repeat (first | refine blk_drewN ?_ _ | refine blk_drew ?_ | refine blk_alloc ?_ _)); refine blk_put (cs := #[.int .i64 0, .slice none 0 0]) ?_ 0 _ rfl; (with_reducible repeat (first | refine blk_drewN ?_ _ | refine blk_drew ?_ | refine blk_alloc ?_ _)); exact BK440.out) Try.underlying26 rfl (by kernel_rfl)) rfl ?_
 exact ⟨_, re_, by first | exact Kd.R_nil _ _ _ _ _ | exact Kd.N_nil _ _ _ _ _ | exact Kd.V_nil _ _ _ _ _ | exact Kd.Q_nil _ _ _ _ _ | exact Kd.S_nil _ _ _ _ _, Bl_ HB, by repeat (first | (with_reducible first | exact HK.out | apply Kept.alloc | apply Kept.drewN | apply Kept.drew | refine Kept.setCell ?_ (.inr GW439.out) _ | refine Kept.setCell ?_ (.inr GW440.out) _) | exact HK.out)⟩

/-! ### spec_PutWire: function 19 -/
mutual
def spec_PutWire.j0 : Nat → Int → Bool → Int → List Int → Option (Int × List Int × Bool)
 | 0, _, _, _, _ => none
 | k + 1, x1, x25, x443000, x443001 => if x25 = true then (some (0, ([] : List Int), false)) else (spec_PutWire.l0 k x1 x443001 (x443001.length : Int) 0 (wrap64 (x443000 + 1)) ([] : List Int))
def spec_PutWire.l0 : Nat → Int → List Int → Int → Int → Int → List Int → Option (Int × List Int × Bool)
 | 0, _, _, _, _, _, _ => none
 | k + 1, x1, x32, x33, x34, x448000, x448001 => if x34 < x33 then (if 0 ≤ x34 then (if x34 < (x32.length : Int) then (if (rd x32 x34) ≥ x1 then (if x448001.length < 17592186044416 then (spec_PutWire.l0 k x1 x32 x33 (wrap64 (x34 + 1)) x448000 (x448001 ++ [wrap64 ((rd x32 x34) + 1)])) else (none)) else (if x448001.length < 17592186044416 then (spec_PutWire.l0 k x1 x32 x33 (wrap64 (x34 + 1)) x448000 (x448001 ++ [rd x32 x34])) else (none))) else (none)) else (none)) else ((spec_laIf.f k x448000 x448001).bind fun bt455 => (some (bt455.1, bt455.2.1, bt455.2.2)))
end
def spec_PutWire.f (k : Nat) (a0_0 : Int) (l0_1 : List Int) (a1 : Int) : Option (Int × List Int × Bool) := (spec_laGood.f k a0_0 l0_1).bind fun t444 => (if t444 = true then ((spec_l1In.f a1 0 a0_0).bind fun t445 => (if t445 = true then ((spec_l1Has.f k l0_1 (wrap64 (a1 - 1))).bind fun t446 => (spec_PutWire.j0 k a1 t446 a0_0 l0_1)) else (spec_PutWire.j0 k a1 true a0_0 l0_1))) else (spec_PutWire.j0 k a1 true a0_0 l0_1))
theorem spec_PutWire.mono_l : ∀ k, (∀ y0 y1 y2 y3, LeO (spec_PutWire.j0 k y0 y1 y2 y3) (spec_PutWire.j0 (k + 1) y0 y1 y2 y3)) ∧ (∀ y0 y1 y2 y3 y4 y5, LeO (spec_PutWire.l0 k y0 y1 y2 y3 y4 y5) (spec_PutWire.l0 (k + 1) y0 y1 y2 y3 y4 y5))
 | 0 => ⟨fun _ _ _ _ r h => by simp [spec_PutWire.j0] at h, fun _ _ _ _ _ _ r h => by simp [spec_PutWire.l0] at h⟩
 | k + 1 => by
  obtain ⟨ih0, ih1⟩ := spec_PutWire.mono_l k
  refine ⟨?_, ?_⟩
  ·intro y0 y1 y2 y3
   unfold spec_PutWire.j0
   repeat' first
   | (with_reducible exact ih1 _ _ _ _ _ _)
   | (with_reducible exact LeO.refl _)
   | (with_reducible exact LeO.none _)
   | (with_reducible refine LeO.ite ?_ ?_)
   | (with_reducible refine LeO.bind ?_ (fun _ => ?_))
   | exact LeO.none _
   | refine LeO.ite ?_ ?_
   | refine LeO.bind ?_ (fun _ => ?_)
  ·intro y0 y1 y2 y3 y4 y5
   unfold spec_PutWire.l0
   repeat' first
   | (with_reducible exact ih1 _ _ _ _ _ _)
   | (with_reducible exact spec_laIf.mono _ _ _)
   | (with_reducible exact LeO.refl _)
   | (with_reducible exact LeO.none _)
   | (with_reducible refine LeO.ite ?_ ?_)
   | (with_reducible refine LeO.bind ?_ (fun _ => ?_))
   | exact LeO.none _
   | refine LeO.ite ?_ ?_
   | refine LeO.bind ?_ (fun _ => ?_)
theorem spec_PutWire.mono : ∀ a0 a1 a2 k, LeO (spec_PutWire.f k a0 a1 a2) (spec_PutWire.f (k + 1) a0 a1 a2) := by
 intro a0 a1 a2 k
 obtain ⟨ih0, ih1⟩ := spec_PutWire.mono_l k
 unfold spec_PutWire.f
 repeat' first
  | (with_reducible exact ih0 _ _ _ _)
  | (with_reducible exact spec_l1Has.mono _ _ _)
  | (with_reducible exact spec_laGood.mono _ _ _)
  | (with_reducible exact LeO.refl _)
  | (with_reducible exact LeO.none _)
  | (with_reducible refine LeO.ite ?_ ?_)
  | (with_reducible refine LeO.bind ?_ (fun _ => ?_))
  | exact LeO.none _
  | refine LeO.ite ?_ ?_
  | refine LeO.bind ?_ (fun _ => ?_)
set_option maxHeartbeats 8000000 in
set_option maxRecDepth 100000 in
theorem spec_PutWire.calls (k : Nat) (a0_0 : Int) (A0_1 : Option Addr) (c0_1 : Nat) (l0_1 : List Int) (a1 : Int) (r1 : Int) (r2 : List Int) (r3 : Bool) (w : World) (hr0_1 : Kd.C (Kd.int .i64) w A0_1 l0_1.length l0_1) (hc0_1 : l0_1.length ≤ c0_1) (h : spec_PutWire.f k a0_0 l0_1 a1 = some (r1, r2, r3)) :
 Calls Try.prog 19 #[.agg #[.int .i64 a0_0, .slice A0_1 l0_1.length c0_1], .int .i64 a1] w fun e w' => ∃ v1_ : Value, e = .returned (.tuple #[.agg #[.int .i64 r1, v1_], .bool r3]) ∧ Kd.R (Kd.int .i64) 3 w' w.heap.size (fun _ => True) v1_ r2 ∧ Below w.heap.size w w' := by
 have hu26 := Try.underlying26
 have HR0_1 := a_ hr0_1
 have HC0_1 := a_ hc0_1
 clear hr0_1 hc0_1
 have HB := a_ (Below.refl w.heap.size w)
 have H : ((spec_laGood.f k a0_0 l0_1).bind fun t444 => (if t444 = true then ((spec_l1In.f a1 0 a0_0).bind fun t445 => (if t445 = true then ((spec_l1Has.f k l0_1 (wrap64 (a1 - 1))).bind fun t446 => (spec_PutWire.j0 k a1 t446 a0_0 l0_1)) else (spec_PutWire.j0 k a1 true a0_0 l0_1))) else (spec_PutWire.j0 k a1 true a0_0 l0_1))) = some (r1, r2, r3) := h
 clear h
 have HC3 := a_ H
 clear H
 go_enter Try.func19, Try.ntmps19
 go_upto_region 1 with (first | ((with_reducible refine gate_dst (N := 2) rfl ?_); refine bx_ #[.int .i64 a0_0, .slice A0_1 l0_1.length c0_1] 26 ?_ 2; intro gb442 hg w4 hbox hb; have BK442 := a_ (hbox); have GW442 := gw_ HB hg; have GE442 := gw_ HB hg; replace HB := Bs_ HB hb; clear hb hbox hg) | ((with_reducible refine gate_dst (N := 4) rfl ?_); refine bx_ #[.int .i64 0, .slice none 0 0] 26 ?_ 4; intro gb443 hg w5 hbox hb; have BK443 := a_ (hbox); have GW443 := gw_ HB hg; have GE443 := gw_ HB hg; replace HB := Bs_ HB hb; have NB442_443 := nbl_ BK442 hg; have NB443_442 := nbg_ BK442 hg; replace BK442 := blkB_ BK442 hb; clear hb hbox hg))
 (try simp only [Act.put, List.setIfInBounds_toArray, List.set_cons_zero, List.set_cons_succ])
 go_cut [25] (fun v25 wc => ∃ (kq : Nat) (x25_2 : Bool), v25 = .bool x25_2 ∧ Aside0 (spec_PutWire.j0 kq a1 x25_2 a0_0 l0_1 = some (r1, r2, r3)) ∧ Aside0 (kq ≤ k) ∧ Aside0 (wc.heap[gb442]? = some (.cells #[.int .i64 a0_0, (.slice A0_1 l0_1.length c0_1)] 26 (0, 0))) ∧ Aside0 (wc.heap[gb443]? = some (.cells #[.int .i64 0, (.slice none 0 0)] 26 (0, 0))) ∧ Aside0 (Below w.heap.size w wc))
 case first =>
  have H := HC3.out
  clear HC3
  obtain ⟨t444, A6, H⟩ := ob_ H
  (try dsimp only at H)
  by_cases c7 : t444 = true
  rotate_left
  ·replace c7 := Bool.eq_false_iff.mpr c7
   subst c7
   rw [if_neg (show ¬ (false = true) by decide)] at H
   have H' := a_ H
   clear H
   have hnb19 := NB442_443.out
   have hnc19 := NB443_442.out
   have hcz20_0 := cz_ (.int .i64 a0_0) BK442 0
   have hcz20_1 := cz_ (.slice A0_1 l0_1.length c0_1) BK442 1
   have hfz20_0 := fz_ BK442 0
   have hfz20_1 := fz_ BK442 1
   go_wp2_with (first | ((with_reducible refine gate_callee (f := 45) rfl ?_); refine gm_ (some 10) Try.func45 #[.agg #[.int .i64 a0_0, .slice A0_1 l0_1.length c0_1]] rfl ?_; (with_reducible refine (spec_laGood.calls k a0_0 _ _ l0_1 false _ ?side1 ?side2 A6.out).mono ?_); (case side1 => exact Cl_ (Kd.C_below HR0_1.out HB.out)); (case side2 => exact HC0_1.out); rintro e w21 ⟨rfl, hb⟩; refine ⟨_, rfl, ?_⟩; replace BK442 := blkB_ BK442 hb; replace BK443 := blkB_ BK443 hb; replace HB := Bs_ HB hb; (try clear hb); (try clear hb2); (try clear hk); (try clear hi)))
   go_meet
   case rel => exact ⟨_, (true), rs_, H', ⟨by first | omega | exact Nat.le_refl _⟩, ⟨bl_ BK442⟩, ⟨bl_ BK443⟩, ⟨Bl_ HB⟩⟩
  subst c7
  rw [if_pos rfl] at H
  obtain ⟨t445, A8, H⟩ := ob_ H
  (try dsimp only at H)
  by_cases c9 : t445 = true
  rotate_left
  ·replace c9 := Bool.eq_false_iff.mpr c9
   subst c9
   rw [if_neg (show ¬ (false = true) by decide)] at H
   have H' := a_ H
   clear H
   have hnb15 := NB442_443.out
   have hnc15 := NB443_442.out
   have hcz16_0 := cz_ (.int .i64 a0_0) BK442 0
   have hcz16_1 := cz_ (.slice A0_1 l0_1.length c0_1) BK442 1
   have hfz16_0 := fz_ BK442 0
   have hfz16_1 := fz_ BK442 1
   go_wp2_with (first | ((with_reducible refine gate_callee (f := 45) rfl ?_); refine gm_ (some 10) Try.func45 #[.agg #[.int .i64 a0_0, .slice A0_1 l0_1.length c0_1]] rfl ?_; (with_reducible refine (spec_laGood.calls k a0_0 _ _ l0_1 true _ ?side1 ?side2 A6.out).mono ?_); (case side1 => exact Cl_ (Kd.C_below HR0_1.out HB.out)); (case side2 => exact HC0_1.out); rintro e w17 ⟨rfl, hb⟩; refine ⟨_, rfl, ?_⟩; replace BK442 := blkB_ BK442 hb; replace BK443 := blkB_ BK443 hb; replace HB := Bs_ HB hb; (try clear hb); (try clear hb2); (try clear hk); (try clear hi); have hcz18_0 := cz_ (.int .i64 a0_0) BK442 0; have hcz18_1 := cz_ (.slice A0_1 l0_1.length c0_1) BK442 1; have hfz18_0 := fz_ BK442 0; have hfz18_1 := fz_ BK442 1) | (go_at_call 53; (with_reducible refine (spec_l1In.calls a1 0 a0_0 false _ A8.out).mono ?_); rintro e w' ⟨rfl, ⟨nd, rfl⟩⟩))
   go_meet
   case rel => exact ⟨_, (true), rs_, H', ⟨by first | omega | exact Nat.le_refl _⟩, ⟨bl_ BK442⟩, ⟨bl_ BK443⟩, ⟨Bl_ HB⟩⟩
  subst c9
  rw [if_pos rfl] at H
  obtain ⟨t446, A10, H⟩ := ob_ H
  (try dsimp only at H)
  have H' := a_ H
  clear H
  have hnb11 := NB442_443.out
  have hnc11 := NB443_442.out
  have hcz12_0 := cz_ (.int .i64 a0_0) BK442 0
  have hcz12_1 := cz_ (.slice A0_1 l0_1.length c0_1) BK442 1
  have hfz12_0 := fz_ BK442 0
  have hfz12_1 := fz_ BK442 1
  go_wp2_with (first | ((with_reducible refine gate_callee (f := 45) rfl ?_); refine gm_ (some 10) Try.func45 #[.agg #[.int .i64 a0_0, .slice A0_1 l0_1.length c0_1]] rfl ?_; (with_reducible refine (spec_laGood.calls k a0_0 _ _ l0_1 true _ ?side1 ?side2 A6.out).mono ?_); (case side1 => exact Cl_ (Kd.C_below HR0_1.out HB.out)); (case side2 => exact HC0_1.out); rintro e w13 ⟨rfl, hb⟩; refine ⟨_, rfl, ?_⟩; replace BK442 := blkB_ BK442 hb; replace BK443 := blkB_ BK443 hb; replace HB := Bs_ HB hb; (try clear hb); (try clear hb2); (try clear hk); (try clear hi); have hcz14_0 := cz_ (.int .i64 a0_0) BK442 0; have hcz14_1 := cz_ (.slice A0_1 l0_1.length c0_1) BK442 1; have hfz14_0 := fz_ BK442 0; have hfz14_1 := fz_ BK442 1) | (go_at_call 53; (with_reducible refine (spec_l1In.calls a1 0 a0_0 true _ A8.out).mono ?_); rintro e w' ⟨rfl, ⟨nd, rfl⟩⟩) | (go_at_call 48; (with_reducible refine (spec_l1Has.calls k _ _ l0_1 (wrap64 (a1 - 1)) t446 _ ?side1 ?side2 A10.out).mono ?_); (case side1 => exact Cl_ (Kd.C_below HR0_1.out (Bl_ HB))); (case side2 => exact HC0_1.out); rintro e w' ⟨rfl, ⟨nd, rfl⟩⟩))
  go_meet
  case rel => exact ⟨_, (t446), rs_, H', ⟨by first | omega | exact Nat.le_refl _⟩, ⟨bl_ BK442⟩, ⟨bl_ BK443⟩, ⟨Bl_ HB⟩⟩
 case rest =>
  as_aux_lemma =>
  clear HC3
  try clear c1
  try clear p2
  try clear c4
  try clear p6
  try clear c7
  try clear c9
  try clear c11
  try clear c15
  try clear c19
  try clear hcz12_0
  try clear hcz12_1
  try clear hcz14_0
  try clear hcz14_1
  try clear hcz16_0
  try clear hcz16_1
  try clear hcz18_0
  try clear hcz18_1
  try clear hcz20_0
  try clear hcz20_1
  try clear hfz12_0
  try clear hfz12_1
  try clear hfz14_0
  try clear hfz14_1
  try clear hfz16_0
  try clear hfz16_1
  try clear hfz18_0
  try clear hfz18_1
  try clear hfz20_0
  try clear hfz20_1
  obtain ⟨kq, x25_2, rfl, HA, HJ2, BK442, BK443, HB⟩ := hcut
  cases kq with
  | zero => exact absurd HA.out (by simp [spec_PutWire.j0])
  | succ kj2 =>
   have H := HA.out
   clear HA
   simp only [spec_PutWire.j0] at H
   by_cases c22 : x25_2 = true
   ·subst c22
    rw [if_pos rfl] at H
    simp only [Option.some.injEq, Prod.mk.injEq] at H
    obtain ⟨rfl, rfl, rfl⟩ := H
    have hnb23 := NB443_442.out
    have hnc23 := NB442_443.out
    have hcz24_0 : wc.cell? ⟨gb443, 0, none⟩ = some (.int .i64 0) := (blk_cell BK443.out 0).trans rfl
    have hcz24_1 : wc.cell? ⟨gb443, 1, none⟩ = some (.slice none 0 0) := (blk_cell BK443.out 1).trans rfl
    have hfz24_0 := fz_ BK443 0
    have hfz24_1 := fz_ BK443 1
    go_wp2
    refine bodyPost_ret (results_ct rfl _ _ gb443 26 #[.int .i64 0, .slice none 0 0] (0, 0) _ rfl (by (with_reducible repeat (first | refine blk_drewN ?_ _ | refine blk_drew ?_ | refine blk_alloc ?_ _)); refine blk_put (cs := #[.int .i64 0, .slice none 0 0]) ?_ 1 _ rfl; (with_reducible repeat (first | refine blk_drewN ?_ _ | refine blk_drew ?_ | refine blk_alloc ?_ _)); refine blk_put (cs := #[.int .i64 0, .slice none 0 0]) ?_ 0 _ rfl; (with_reducible repeat (first | refine blk_drewN ?_ _ | refine blk_drew ?_ | refine blk_alloc ?_ _)); exact BK443.out) Try.underlying26 rfl (by kernel_rfl)) rfl ?_
    exact ⟨_, re_, by first | exact Kd.R_nil _ _ _ _ _ | exact Kd.N_nil _ _ _ _ _ | exact Kd.V_nil _ _ _ _ _ | exact Kd.Q_nil _ _ _ _ _ | exact Kd.S_nil _ _ _ _ _, Bl_ HB⟩
   replace c22 := Bool.eq_false_iff.mpr c22
   subst c22
   rw [if_neg (show ¬ (false = true) by decide)] at H
   have H' := a_ H
   clear H
   have hnb25 := NB442_443.out
   have hnc25 := NB443_442.out
   have hcz26_0 : wc.cell? ⟨gb442, 0, none⟩ = some (.int .i64 a0_0) := (blk_cell BK442.out 0).trans rfl
   have hcz26_1 : wc.cell? ⟨gb442, 1, none⟩ = some (.slice A0_1 l0_1.length c0_1) := (blk_cell BK442.out 1).trans rfl
   have hfz26_0 := fz_ BK442 0
   have hfz26_1 := fz_ BK442 1
   go_wp2_with (first | ((with_reducible refine gate_dst (N := 6) rfl ?_); refine bx_ #[.int .i64 0, .slice none 0 0] 26 ?_ 6; intro gb447 hg w27 hbox hb; have BK447 := a_ (hbox); have GW447 := gw_ HB hg; have GE447 := gw_ HB hg; replace HB := Bs_ HB hb; have NB442_447 := nbl_ BK442 hg; have NB447_442 := nbg_ BK442 hg; replace BK442 := blkB_ BK442 hb; have NB443_447 := nbl_ BK443 hg; have NB447_443 := nbg_ BK443 hg; replace BK443 := blkB_ BK443 hb; clear hb hbox hg; have hnb28 := NB447_442.out; have hnc28 := NB442_447.out; have hnb29 := NB447_443.out; have hnc29 := NB443_447.out; have hcz30_0 := cz_ (.int .i64 0) BK447 0; have hcz30_1 := cz_ (.slice none 0 0) BK447 1; have hfz30_0 := fz_ BK447 0; have hfz30_1 := fz_ BK447 1; have hcz31_0 := cz_ (.int .i64 a0_0) BK442 0; have hcz31_1 := cz_ (.slice A0_1 l0_1.length c0_1) BK442 1; have hfz31_0 := fz_ BK442 0; have hfz31_1 := fz_ BK442 1))
   go_loopg [34] kj2 (fun kq v34 w' => ∃ (x34_2 : Int) (x448001_2 : List Int) (u448001 : Value), v34 = .int .i64 x34_2 ∧ Aside0 (spec_PutWire.l0 kq a1 l0_1 (l0_1.length : Int) x34_2 (wrap64 (a0_0 + 1)) x448001_2 = some (r1, r2, r3)) ∧ Aside0 (kq ≤ kj2) ∧ Aside0 (Kd.R (Kd.int .i64) 3 w' w.heap.size (fun _ => True) u448001 x448001_2) ∧ Aside0 (w'.heap[gb442]? = some (.cells #[.int .i64 a0_0, (.slice A0_1 l0_1.length c0_1)] 26 (0, 0))) ∧ Aside0 (w'.heap[gb443]? = some (.cells #[.int .i64 0, (.slice none 0 0)] 26 (0, 0))) ∧ Aside0 (w'.heap[gb447]? = some (.cells #[.int .i64 (wrap64 (a0_0 + 1)), u448001] 26 (0, 0))) ∧ Aside0 (Below w.heap.size w w'))
   case atStart => exact ⟨(0), (([] : List Int)), (.slice none 0 0), rs_, H', ⟨Nat.le_refl _⟩, ⟨by first | exact Kd.R_nil _ _ _ _ _ | exact Kd.N_nil _ _ _ _ _ | exact Kd.V_nil _ _ _ _ _ | exact Kd.Q_nil _ _ _ _ _ | exact Kd.S_nil _ _ _ _ _⟩, ⟨by (with_reducible repeat (first | refine blk_drewN ?_ _ | refine blk_drew ?_ | refine blk_alloc ?_ _)); refine blk_far ?_ NB442_447.out _; (with_reducible repeat (first | refine blk_drewN ?_ _ | refine blk_drew ?_ | refine blk_alloc ?_ _)); refine blk_far ?_ NB442_447.out _; (with_reducible repeat (first | refine blk_drewN ?_ _ | refine blk_drew ?_ | refine blk_alloc ?_ _)); exact BK442.out⟩, ⟨by (with_reducible repeat (first | refine blk_drewN ?_ _ | refine blk_drew ?_ | refine blk_alloc ?_ _)); refine blk_far ?_ NB443_447.out _; (with_reducible repeat (first | refine blk_drewN ?_ _ | refine blk_drew ?_ | refine blk_alloc ?_ _)); refine blk_far ?_ NB443_447.out _; (with_reducible repeat (first | refine blk_drewN ?_ _ | refine blk_drew ?_ | refine blk_alloc ?_ _)); exact BK443.out⟩, ⟨by (with_reducible repeat (first | refine blk_drewN ?_ _ | refine blk_drew ?_ | refine blk_alloc ?_ _)); refine blk_put (cs := #[.int .i64 (wrap64 (a0_0 + 1)), .slice none 0 0]) ?_ 1 _ rfl; (with_reducible repeat (first | refine blk_drewN ?_ _ | refine blk_drew ?_ | refine blk_alloc ?_ _)); refine blk_put (cs := #[.int .i64 0, .slice none 0 0]) ?_ 0 _ rfl; (with_reducible repeat (first | refine blk_drewN ?_ _ | refine blk_drew ?_ | refine blk_alloc ?_ _)); exact BK447.out⟩, ⟨Bl_ HB⟩⟩
   case round =>
    as_aux_lemma =>
    clear H'
    try clear c1
    try clear c2
    try clear p2
    try clear c4
    try clear p6
    try clear c7
    try clear c9
    try clear c11
    try clear c15
    try clear c19
    try clear c22
    try clear c23
    try clear c25
    try clear c28
    try clear c29
    try clear hcz12_0
    try clear hcz12_1
    try clear hcz14_0
    try clear hcz14_1
    try clear hcz16_0
    try clear hcz16_1
    try clear hcz18_0
    try clear hcz18_1
    try clear hcz20_0
    try clear hcz20_1
    try clear hcz24_0
    try clear hcz24_1
    try clear hcz26_0
    try clear hcz26_1
    try clear hcz30_0
    try clear hcz30_1
    try clear hcz31_0
    try clear hcz31_1
    try clear hfz12_0
    try clear hfz12_1
    try clear hfz14_0
    try clear hfz14_1
    try clear hfz16_0
    try clear hfz16_1
    try clear hfz18_0
    try clear hfz18_1
    try clear hfz20_0
    try clear hfz20_1
    try clear hfz24_0
    try clear hfz24_1
    try clear hfz26_0
    try clear hfz26_1
    try clear hfz30_0
    try clear hfz30_1
    try clear hfz31_0
    try clear hfz31_1
    try clear p2
    try clear p6
    obtain ⟨x34_2, x448001_2, u448001, rfl, HA, HK2, HO_448001, BK442, BK443, BK447, HB⟩ := hrel
    cases gk with
    | zero => exact absurd HA.out (by simp [spec_PutWire.l0])
    | succ k2 =>
     have H := HA.out
     clear HA
     simp only [spec_PutWire.l0] at H
     by_cases c32 : x34_2 < (l0_1.length : Int)
     rotate_left
     ·rw [if_neg c32] at H
      have c32b0 : decide (x34_2 < (l0_1.length : Int)) = false := decide_eq_false c32
      clear c32
      obtain ⟨⟨t455, t456, t459⟩, A50, H⟩ := ob_ H
      (try dsimp only at H)
      simp only [Option.some.injEq, Prod.mk.injEq] at H
      obtain ⟨rfl, rfl, rfl⟩ := H
      have hnb51 := NB447_442.out
      have hnc51 := NB442_447.out
      have hnb52 := NB447_443.out
      have hnc52 := NB443_447.out
      have hcz53_0 : wr.cell? ⟨gb447, 0, none⟩ = some (.int .i64 (wrap64 (a0_0 + 1))) := (blk_cell BK447.out 0).trans rfl
      have hcz53_1 : wr.cell? ⟨gb447, 1, none⟩ = some (u448001) := (blk_cell BK447.out 1).trans rfl
      have hfz53_0 := fz_ BK447 0
      have hfz53_1 := fz_ BK447 1
      obtain ⟨Ao54, co54, eo54⟩ := Kd.R_slice HO_448001.out
      subst eo54
      go_wp2_with (first | ((with_reducible refine gate_callee (f := 54) rfl ?_); refine gm_ (some 51) Try.func54 #[.agg #[.int .i64 (wrap64 (a0_0 + 1)), .slice Ao54 x448001_2.length co54]] rfl ?_; (with_reducible refine (spec_laIf.calls k2 (wrap64 (a0_0 + 1)) (fun k_ => some k_ = (.slice Ao54 x448001_2.length co54 : Value).ownBlock) (.slice Ao54 x448001_2.length co54) x448001_2 t455 t456 t459 w _ ?side1 ?side2 A50.out).mono ?_); (case side1 => repeat (first | (with_reducible first | exact HB.out | apply below_alloc | apply pw_below_drewN | apply below_drew1 | refine below_set ?_ GE442.out | refine below_set ?_ GE443.out | refine below_set ?_ GE447.out) | exact HB.out)); (case side2 => exact Kd.R_tight rfl HO_448001.out); rintro e w55 ⟨v457, rfl, ho0, hb, hkp⟩; refine ⟨_, rfl, ?_⟩; replace BK442 := a_ (blk_kept (bl_ BK442) hkp (fun hs_ => (fun e_ => (Kd.R_ne HO_448001.out BK442.out (by decide)) e_) hs_)); replace BK443 := a_ (blk_kept (bl_ BK443) hkp (fun hs_ => (fun e_ => (Kd.R_ne HO_448001.out BK443.out (by decide)) e_) hs_)); replace BK447 := a_ (blk_kept (bl_ BK447) hkp (fun hs_ => (fun e_ => (Kd.R_ne HO_448001.out BK447.out (by decide)) e_) hs_)); have HO458 := a_ (Kd.R_mono (ok' := fun k_ => True) ho0 (fun k_ hk_ => trivial)); replace HB := a_ (hb); clear HO_448001; (try clear hb); (try clear hkp); (try clear ho0); have hnb56 := NB443_442.out; have hnc56 := NB442_443.out; have hcz57_0 := cz_ (.int .i64 0) BK443 0; have hcz57_1 := cz_ (.slice none 0 0) BK443 1; have hfz57_0 := fz_ BK443 0; have hfz57_1 := fz_ BK443 1; obtain ⟨Ao58, co58, eo58⟩ := Kd.R_slice HO458.out; subst eo58))
      refine bodyPost_ret (results_ct rfl _ _ gb443 26 #[.int .i64 t455, .slice Ao58 t456.length co58] (0, 0) _ rfl (by (with_reducible repeat (first | refine blk_drewN ?_ _ | refine blk_drew ?_ | refine blk_alloc ?_ _)); refine blk_put (cs := #[.int .i64 t455, .slice none 0 0]) ?_ 1 _ rfl; (with_reducible repeat (first | refine blk_drewN ?_ _ | refine blk_drew ?_ | refine blk_alloc ?_ _)); refine blk_put (cs := #[.int .i64 0, .slice none 0 0]) ?_ 0 _ rfl; (with_reducible repeat (first | refine blk_drewN ?_ _ | refine blk_drew ?_ | refine blk_alloc ?_ _)); exact BK443.out) Try.underlying26 rfl (by kernel_rfl)) rfl ?_
      exact ⟨_, re_, by (with_reducible repeat (first | apply Kd.R_alloc | apply Kd.R_drewN | apply Kd.R_drew)); exact Kd.R_mono (Kd.R_far (p := ⟨gb443, 1, none⟩) (Kd.R_far (p := ⟨gb443, 0, none⟩) (Kd.R_types HO458.out BK443.out (by decide)) (fun _ hk => hk.2) (.int .i64 t455)) (fun _ hk => hk.2) (.slice Ao58 t456.length co58)) (fun _ hk => trivial), Bl_ HB⟩
     rw [if_pos c32] at H
     have c32b0 : decide (x34_2 < (l0_1.length : Int)) = true := decide_eq_true c32
     clear c32
     by_cases c33 : 0 ≤ x34_2
     rotate_left
     ·rw [if_neg c33] at H
      cases H
     rw [if_pos c33] at H
     have c33b0 : decide (0 ≤ x34_2) = true := decide_eq_true c33
     clear c33
     by_cases c34 : x34_2 < (l0_1.length : Int)
     rotate_left
     ·rw [if_neg c34] at H
      cases H
     rw [if_pos c34] at H
     have c34b0 : decide (x34_2 < (l0_1.length : Int)) = true := decide_eq_true c34
     clear c34
     by_cases c35 : (rd l0_1 x34_2) ≥ a1
     ·rw [if_pos c35] at H
      have c35b0 : decide (a1 ≤ (rd l0_1 x34_2)) = true := decide_eq_true c35
      clear c35
      by_cases c36 : x448001_2.length < 17592186044416
      rotate_left
      ·rw [if_neg c36] at H
       cases H
      rw [if_pos c36] at H
      have LMc36 := a_ c36
      clear c36
      obtain ⟨y449, hy449⟩ : ∃ y_ : List Int, y_ = (x448001_2 ++ [wrap64 ((rd l0_1 x34_2) + 1)]) := ⟨_, rfl⟩
      replace H : (spec_PutWire.l0 k2 a1 l0_1 (l0_1.length : Int) (wrap64 (x34_2 + 1)) (wrap64 (a0_0 + 1)) y449) = some (r1, r2, r3) := by first | (rw [hy449]; with_reducible exact H) | (have H2_ := (Option.bind_some _ _).symm.trans H; rw [hy449]; with_reducible exact H2_) | (have H2_ := (Option.bind_some _ _).symm.trans H; with_reducible exact H2_) | with_reducible exact H | (rw [hy449]; exact H) | exact H
      have Ny449 := a_ hy449
      clear hy449
      have H' := a_ H
      clear H
      have p448 : 0 ≤ (x34_2 : Int) := od_
      have q448 : x34_2 < (l0_1.length : Int) := od_
      obtain ⟨ad448, e448, hx448_0⟩ := Kd.at_int HR0_1.out x34_2 p448 q448
      cases e448
      replace hx448_0 := (HB.out.cell (World.block_lt_of_cell? w _ hx448_0)).trans hx448_0
      replace p448 := eq_true p448
      replace q448 := eq_true q448
      have hnb37 := NB447_442.out
      have hnc37 := NB442_447.out
      have hnb38 := NB447_443.out
      have hnc38 := NB443_447.out
      have hcz39_0 : wr.cell? ⟨gb447, 0, none⟩ = some (.int .i64 (wrap64 (a0_0 + 1))) := (blk_cell BK447.out 0).trans rfl
      have hcz39_1 : wr.cell? ⟨gb447, 1, none⟩ = some (u448001) := (blk_cell BK447.out 1).trans rfl
      have hfz39_0 := fz_ BK447 0
      have hfz39_1 := fz_ BK447 1
      go_wp2_with (first | ((with_reducible refine gate_builtin (b := .append) (xs := #[.tmp 44, .tmp 46]) rfl ?_); at_builtin; refine Kd.R_append (Kd.int .i64) (w0 := w) w.heap.size rfl (.tmp 44) (.tmp 46) 24 3 (.int .i64 0) 8 rfl Try.underlying24 info3 rfl (by decide) (by omega) u448001 x448001_2 (wrap64 ((rd l0_1 x34_2) + 1)) [.int .i64 (wrap64 ((rd l0_1 x34_2) + 1))] (fun _ => True) (fun _ => False) rfl rfl ?aP (fun _ hk => hk.elim) ?aF ?aO ?aB ?aS ?aL ?_; (case aP => exact rfl); (case aB => exact (Bl_ HB)); (case aF => exact (fun _ _ => trivial)); (case aO => exact (Rl_ HO_448001.out)); (case aS => exact (below_size (Bl_ HB))); (case aL => have := LMc36.out; omega); intro v450 w40 ho hb hg hat; rw [← Ny449.out] at ho; replace BK442 := a_ (blk_grown (g := gb442) (o := .cells #[.int .i64 a0_0, .slice (some ad448) l0_1.length c0_1] 26 (0, 0)) (bl_ BK442) hg (Kd.R_ne HO_448001.out BK442.out (by decide))); replace BK443 := a_ (blk_grown (g := gb443) (o := .cells #[.int .i64 0, .slice none 0 0] 26 (0, 0)) (bl_ BK443) hg (Kd.R_ne HO_448001.out BK443.out (by decide))); replace BK447 := a_ (blk_grown (g := gb447) (o := .cells #[.int .i64 (wrap64 (a0_0 + 1)), u448001] 26 (0, 0)) (bl_ BK447) hg (Kd.R_ne HO_448001.out BK447.out (by decide))); replace HB := a_ (hb); have HO451 := a_ (ho); clear HO_448001; clear ho hb hg hat; obtain ⟨Ao41, co41, eo41⟩ := Kd.R_slice HO451.out; subst eo41; have hcz42_0 := cz_ (.int .i64 (wrap64 (a0_0 + 1))) BK447 0; have hcz42_1 := cz_ (u448001) BK447 1; have hfz42_0 := fz_ BK447 0; have hfz42_1 := fz_ BK447 1))
      go_roundg k2
      case measure => have := HJ2.out; have := HK2.out; omega
      case rel => exact ⟨(wrap64 (x34_2 + 1)), (y449), (.slice Ao41 y449.length co41), rs_, H', ⟨by have := HJ2.out; have := HK2.out; omega⟩, ⟨Rl_ (Kd.R_mono (Kd.R_far (p := ⟨gb447, 1, none⟩) (Kd.R_types HO451.out BK447.out (by decide)) (fun _ hk => hk.2) (.slice Ao41 y449.length co41)) (fun _ hk => trivial))⟩, ⟨by (with_reducible repeat (first | refine blk_drewN ?_ _ | refine blk_drew ?_ | refine blk_alloc ?_ _)); refine blk_far ?_ NB442_447.out _; (with_reducible repeat (first | refine blk_drewN ?_ _ | refine blk_drew ?_ | refine blk_alloc ?_ _)); exact BK442.out⟩, ⟨by (with_reducible repeat (first | refine blk_drewN ?_ _ | refine blk_drew ?_ | refine blk_alloc ?_ _)); refine blk_far ?_ NB443_447.out _; (with_reducible repeat (first | refine blk_drewN ?_ _ | refine blk_drew ?_ | refine blk_alloc ?_ _)); exact BK443.out⟩, ⟨by (with_reducible repeat (first | refine blk_drewN ?_ _ | refine blk_drew ?_ | refine blk_alloc ?_ _)); refine blk_put (cs := #[.int .i64 (wrap64 (a0_0 + 1)), u448001]) ?_ 1 _ rfl; (with_reducible repeat (first | refine blk_drewN ?_ _ | refine blk_drew ?_ | refine blk_alloc ?_ _)); exact BK447.out⟩, ⟨Bl_ HB⟩⟩
     rw [if_neg c35] at H
     have c35b0 : decide (a1 ≤ (rd l0_1 x34_2)) = false := decide_eq_false c35
     clear c35
     by_cases c43 : x448001_2.length < 17592186044416
     rotate_left
     ·rw [if_neg c43] at H
      cases H
     rw [if_pos c43] at H
     have LMc43 := a_ c43
     clear c43
     obtain ⟨y452, hy452⟩ : ∃ y_ : List Int, y_ = (x448001_2 ++ [rd l0_1 x34_2]) := ⟨_, rfl⟩
     replace H : (spec_PutWire.l0 k2 a1 l0_1 (l0_1.length : Int) (wrap64 (x34_2 + 1)) (wrap64 (a0_0 + 1)) y452) = some (r1, r2, r3) := by first | (rw [hy452]; with_reducible exact H) | (have H2_ := (Option.bind_some _ _).symm.trans H; rw [hy452]; with_reducible exact H2_) | (have H2_ := (Option.bind_some _ _).symm.trans H; with_reducible exact H2_) | with_reducible exact H | (rw [hy452]; exact H) | exact H
     have Ny452 := a_ hy452
     clear hy452
     have H' := a_ H
     clear H
     have p448 : 0 ≤ (x34_2 : Int) := od_
     have q448 : x34_2 < (l0_1.length : Int) := od_
     obtain ⟨ad448, e448, hx448_0⟩ := Kd.at_int HR0_1.out x34_2 p448 q448
     cases e448
     replace hx448_0 := (HB.out.cell (World.block_lt_of_cell? w _ hx448_0)).trans hx448_0
     replace p448 := eq_true p448
     replace q448 := eq_true q448
     have hnb44 := NB447_442.out
     have hnc44 := NB442_447.out
     have hnb45 := NB447_443.out
     have hnc45 := NB443_447.out
     have hcz46_0 : wr.cell? ⟨gb447, 0, none⟩ = some (.int .i64 (wrap64 (a0_0 + 1))) := (blk_cell BK447.out 0).trans rfl
     have hcz46_1 : wr.cell? ⟨gb447, 1, none⟩ = some (u448001) := (blk_cell BK447.out 1).trans rfl
     have hfz46_0 := fz_ BK447 0
     have hfz46_1 := fz_ BK447 1
     go_wp2_with (first | ((with_reducible refine gate_builtin (b := .append) (xs := #[.tmp 44, .tmp 46]) rfl ?_); at_builtin; refine Kd.R_append (Kd.int .i64) (w0 := w) w.heap.size rfl (.tmp 44) (.tmp 46) 24 3 (.int .i64 0) 8 rfl Try.underlying24 info3 rfl (by decide) (by omega) u448001 x448001_2 (rd l0_1 x34_2) [.int .i64 (rd l0_1 x34_2)] (fun _ => True) (fun _ => False) rfl rfl ?aP (fun _ hk => hk.elim) ?aF ?aO ?aB ?aS ?aL ?_; (case aP => exact rfl); (case aB => exact (Bl_ HB)); (case aF => exact (fun _ _ => trivial)); (case aO => exact (Rl_ HO_448001.out)); (case aS => exact (below_size (Bl_ HB))); (case aL => have := LMc43.out; omega); intro v453 w47 ho hb hg hat; rw [← Ny452.out] at ho; replace BK442 := a_ (blk_grown (g := gb442) (o := .cells #[.int .i64 a0_0, .slice (some ad448) l0_1.length c0_1] 26 (0, 0)) (bl_ BK442) hg (Kd.R_ne HO_448001.out BK442.out (by decide))); replace BK443 := a_ (blk_grown (g := gb443) (o := .cells #[.int .i64 0, .slice none 0 0] 26 (0, 0)) (bl_ BK443) hg (Kd.R_ne HO_448001.out BK443.out (by decide))); replace BK447 := a_ (blk_grown (g := gb447) (o := .cells #[.int .i64 (wrap64 (a0_0 + 1)), u448001] 26 (0, 0)) (bl_ BK447) hg (Kd.R_ne HO_448001.out BK447.out (by decide))); replace HB := a_ (hb); have HO454 := a_ (ho); clear HO_448001; clear ho hb hg hat; obtain ⟨Ao48, co48, eo48⟩ := Kd.R_slice HO454.out; subst eo48; have hcz49_0 := cz_ (.int .i64 (wrap64 (a0_0 + 1))) BK447 0; have hcz49_1 := cz_ (u448001) BK447 1; have hfz49_0 := fz_ BK447 0; have hfz49_1 := fz_ BK447 1))
     go_roundg k2
     case measure => have := HJ2.out; have := HK2.out; omega
     case rel => exact ⟨(wrap64 (x34_2 + 1)), (y452), (.slice Ao48 y452.length co48), rs_, H', ⟨by have := HJ2.out; have := HK2.out; omega⟩, ⟨Rl_ (Kd.R_mono (Kd.R_far (p := ⟨gb447, 1, none⟩) (Kd.R_types HO454.out BK447.out (by decide)) (fun _ hk => hk.2) (.slice Ao48 y452.length co48)) (fun _ hk => trivial))⟩, ⟨by (with_reducible repeat (first | refine blk_drewN ?_ _ | refine blk_drew ?_ | refine blk_alloc ?_ _)); refine blk_far ?_ NB442_447.out _; (with_reducible repeat (first | refine blk_drewN ?_ _ | refine blk_drew ?_ | refine blk_alloc ?_ _)); exact BK442.out⟩, ⟨by (with_reducible repeat (first | refine blk_drewN ?_ _ | refine blk_drew ?_ | refine blk_alloc ?_ _)); refine blk_far ?_ NB443_447.out _; (with_reducible repeat (first | refine blk_drewN ?_ _ | refine blk_drew ?_ | refine blk_alloc ?_ _)); exact BK443.out⟩, ⟨by (with_reducible repeat (first | refine blk_drewN ?_ _ | refine blk_drew ?_ | refine blk_alloc ?_ _)); refine blk_put (cs := #[.int .i64 (wrap64 (a0_0 + 1)), u448001]) ?_ 1 _ rfl; (with_reducible repeat (first | refine blk_drewN ?_ _ | refine blk_drew ?_ | refine blk_alloc ?_ _)); exact BK447.out⟩, ⟨Bl_ HB⟩⟩

/-! ### impl_EndOf: function 20 -/
def impl_EndOf.f (k : Nat) (a0_0 : Int) (l0_1 : List Int) (a1 : Int) : Option (Int × Bool) := (impl_hasWire.f a0_0 l0_1 a1).bind fun t461 => (if t461 = true then ((impl_way.f k a0_0 l0_1 a1).bind fun t462 => (if 0 ≤ (wrap64 ((t462.length : Int) - 1)) then (if (wrap64 ((t462.length : Int) - 1)) < (t462.length : Int) then (some (rd t462 (wrap64 ((t462.length : Int) - 1)), true)) else (none)) else (none))) else (some (0, false)))
theorem impl_EndOf.mono : ∀ a0 a1 a2 k, LeO (impl_EndOf.f k a0 a1 a2) (impl_EndOf.f (k + 1) a0 a1 a2) := by
 intro a0 a1 a2 k
 unfold impl_EndOf.f
 repeat' first
  | (with_reducible exact impl_way.mono _ _ _ _)
  | (with_reducible exact LeO.refl _)
  | (with_reducible exact LeO.none _)
  | (with_reducible refine LeO.ite ?_ ?_)
  | (with_reducible refine LeO.bind ?_ (fun _ => ?_))
  | exact LeO.none _
  | refine LeO.ite ?_ ?_
  | refine LeO.bind ?_ (fun _ => ?_)
set_option maxHeartbeats 8000000 in
set_option maxRecDepth 100000 in
theorem impl_EndOf.calls (k : Nat) (a0_0 : Int) (A0_1 : Option Addr) (c0_1 : Nat) (l0_1 : List Int) (a1 : Int) (r1 : Int) (r2 : Bool) (w : World) (hr0_1 : Kd.C (Kd.int .i64) w A0_1 l0_1.length l0_1) (hc0_1 : l0_1.length ≤ c0_1) (h : impl_EndOf.f k a0_0 l0_1 a1 = some (r1, r2)) :
 Calls Try.prog 20 #[.agg #[.int .i64 a0_0, .slice A0_1 l0_1.length c0_1], .int .i64 a1] w fun e w' => e = .returned (.tuple #[.int .i64 r1, .bool r2]) ∧ Below w.heap.size w w' := by
 have hu26 := Try.underlying26
 have HR0_1 := a_ hr0_1
 have HC0_1 := a_ hc0_1
 clear hr0_1 hc0_1
 have HB := a_ (Below.refl w.heap.size w)
 have H : ((impl_hasWire.f a0_0 l0_1 a1).bind fun t461 => (if t461 = true then ((impl_way.f k a0_0 l0_1 a1).bind fun t462 => (if 0 ≤ (wrap64 ((t462.length : Int) - 1)) then (if (wrap64 ((t462.length : Int) - 1)) < (t462.length : Int) then (some (rd t462 (wrap64 ((t462.length : Int) - 1)), true)) else (none)) else (none))) else (some (0, false)))) = some (r1, r2) := h
 clear h
 obtain ⟨t461, A3, H⟩ := ob_ H
 (try dsimp only at H)
 by_cases c4 : t461 = true
 rotate_left
 ·replace c4 := Bool.eq_false_iff.mpr c4
  subst c4
  rw [if_neg (show ¬ (false = true) by decide)] at H
  simp only [Option.some.injEq, Prod.mk.injEq] at H
  obtain ⟨rfl, rfl⟩ := H
  go_enter Try.func20, Try.ntmps20
  go_wp2_with (first | ((with_reducible refine gate_dst (N := 2) rfl ?_); refine bx_ #[.int .i64 a0_0, .slice A0_1 l0_1.length c0_1] 26 ?_ 2; intro gb460 hg w15 hbox hb; have BK460 := a_ (hbox); have GW460 := gw_ HB hg; have GE460 := gw_ HB hg; replace HB := Bs_ HB hb; clear hb hbox hg; have hcz16_0 := cz_ (.int .i64 a0_0) BK460 0; have hcz16_1 := cz_ (.slice A0_1 l0_1.length c0_1) BK460 1; have hfz16_0 := fz_ BK460 0; have hfz16_1 := fz_ BK460 1) | ((with_reducible refine gate_callee (f := 31) rfl ?_); refine gm_ (some 9) Try.func31 #[.agg #[.int .i64 a0_0, .slice A0_1 l0_1.length c0_1], .int .i64 a1] rfl ?_; (with_reducible refine (impl_hasWire.calls a0_0 _ _ l0_1 a1 false _ ?side1 ?side2 A3.out).mono ?_); (case side1 => exact Cl_ (Kd.C_below HR0_1.out HB.out)); (case side2 => exact HC0_1.out); rintro e w17 ⟨rfl, hb⟩; refine ⟨_, rfl, ?_⟩; replace BK460 := blkB_ BK460 hb; replace HB := Bs_ HB hb; (try clear hb); (try clear hb2); (try clear hk); (try clear hi)))
  go_ret2
  exact ⟨re_, Bl_ HB⟩
 subst c4
 rw [if_pos rfl] at H
 obtain ⟨t462, A5, H⟩ := ob_ H
 (try dsimp only at H)
 obtain ⟨ji6, hji6⟩ : ∃ j_ : Int, (wrap64 ((t462.length : Int) - 1)) = j_ := ⟨_, rfl⟩
 replace H : (if 0 ≤ (ji6) then (if (ji6) < (t462.length : Int) then (some (rd t462 (ji6), true)) else (none)) else (none)) = some (r1, r2) := by first | (rw [hji6] at H; exact H) | (simp only [hji6] at H ⊢; exact H)
 (try rw [hji6] at A3)
 (try rw [hji6] at A5)
 have hji6w : (IntKind.i64.wrap ((t462.length : Int) - 1)) = ji6 := (i64_w _).trans hji6
 by_cases c7 : 0 ≤ (ji6)
 rotate_left
 ·rw [if_neg c7] at H
  cases H
 rw [if_pos c7] at H
 have c7b0 : decide (0 ≤ (ji6)) = true := decide_eq_true c7
 clear c7
 by_cases c8 : (ji6) < (t462.length : Int)
 rotate_left
 ·rw [if_neg c8] at H
  cases H
 rw [if_pos c8] at H
 have c8b0 : decide ((ji6) < (t462.length : Int)) = true := decide_eq_true c8
 clear c8
 simp only [Option.some.injEq, Prod.mk.injEq] at H
 obtain ⟨rfl, rfl⟩ := H
 go_enter Try.func20, Try.ntmps20
 go_wp2_with (first | ((with_reducible refine gate_dst (N := 2) rfl ?_); refine bx_ #[.int .i64 a0_0, .slice A0_1 l0_1.length c0_1] 26 ?_ 2; intro gb460 hg w9 hbox hb; have BK460 := a_ (hbox); have GW460 := gw_ HB hg; have GE460 := gw_ HB hg; replace HB := Bs_ HB hb; clear hb hbox hg; have hcz10_0 := cz_ (.int .i64 a0_0) BK460 0; have hcz10_1 := cz_ (.slice A0_1 l0_1.length c0_1) BK460 1; have hfz10_0 := fz_ BK460 0; have hfz10_1 := fz_ BK460 1) | ((with_reducible refine gate_callee (f := 31) rfl ?_); refine gm_ (some 9) Try.func31 #[.agg #[.int .i64 a0_0, .slice A0_1 l0_1.length c0_1], .int .i64 a1] rfl ?_; (with_reducible refine (impl_hasWire.calls a0_0 _ _ l0_1 a1 true _ ?side1 ?side2 A3.out).mono ?_); (case side1 => exact Cl_ (Kd.C_below HR0_1.out HB.out)); (case side2 => exact HC0_1.out); rintro e w11 ⟨rfl, hb⟩; refine ⟨_, rfl, ?_⟩; replace BK460 := blkB_ BK460 hb; replace HB := Bs_ HB hb; (try clear hb); (try clear hb2); (try clear hk); (try clear hi); have hcz12_0 := cz_ (.int .i64 a0_0) BK460 0; have hcz12_1 := cz_ (.slice A0_1 l0_1.length c0_1) BK460 1; have hfz12_0 := fz_ BK460 0; have hfz12_1 := fz_ BK460 1) | ((with_reducible refine gate_callee (f := 39) rfl ?_); refine gm_ (some 13) Try.func39 #[.agg #[.int .i64 a0_0, .slice A0_1 l0_1.length c0_1], .int .i64 a1] rfl ?_; (with_reducible refine (impl_way.calls k a0_0 _ _ l0_1 a1 t462 _ ?side1 ?side2 A5.out).mono ?_); (case side1 => exact Cl_ (Kd.C_below HR0_1.out HB.out)); (case side2 => exact HC0_1.out); rintro e w13 ⟨v463, rfl, ho0, hb⟩; refine ⟨_, rfl, ?_⟩; have HO464 := a_ (Kd.R_lower ho0 (below_size (Bl_ HB))); replace BK460 := blkB_ BK460 hb; replace HB := Bs_ HB hb; (try clear hb); (try clear hb2); (try clear hk); (try clear hi); (try clear ho0); obtain ⟨Ao14, co14, eo14⟩ := Kd.R_slice HO464.out; subst eo14; have p465 : 0 ≤ ((ji6) : Int) := od_; have q465 : (ji6) < (t462.length : Int) := od_; obtain ⟨ad465, e465, hx465_0⟩ := Kd.at_int (Kd.R_reads' HO464.out).2.2 (ji6) p465 q465; cases e465; replace p465 := eq_true p465; replace q465 := eq_true q465))
 go_ret2
 exact ⟨by first | rfl | (simp [errW_none, errW_some] <;> rfl) | (simp only [← hji6]; first | rfl | (simp [errW_none, errW_some] <;> rfl)) | (simp [*, errW_none, errW_some] <;> rfl), Bl_ HB⟩

/-! ### impl_startsThat: function 55 -/
/-- the starts whose ways the function value takes -/
def selF (k : Nat) (a : Int) (l : List Int) (p : List Int → Option Bool) : Nat → Option (List Int)
  | 0 => some []
  | j + 1 => (selF k a l p j).bind fun s => (impl_way.f k a l (j : Int)).bind fun x => (p x).bind fun b => some (if b = true then s ++ [(j : Int)] else s)
theorem selF_at {k : Nat} {a : Int} {l : List Int} {p : List Int → Option Bool} (n : Nat) : ∀ r, selF k a l p n = some r → ∀ j, j < n → ∃ s x b, selF k a l p j = some s ∧ impl_way.f k a l (j : Int) = some x ∧ p x = some b ∧ selF k a l p (j + 1) = some (if b = true then s ++ [(j : Int)] else s) := by
  induction n with
  | zero => intro r _ j hj; omega
  | succ n ih =>
    intro r h j hj
    have h0 := h
    rw [selF] at h
    obtain ⟨s, hs, h⟩ := Option.bind_eq_some_iff.mp h
    obtain ⟨x, hx, h⟩ := Option.bind_eq_some_iff.mp h
    obtain ⟨b, hb, h⟩ := Option.bind_eq_some_iff.mp h
    by_cases c : j < n
    · exact ih s hs j c
    · obtain rfl : j = n := by omega
      exact ⟨s, x, b, hs, hx, hb, by rw [h0, ← h]⟩
theorem selF_length {k : Nat} {a : Int} {l : List Int} {p : List Int → Option Bool} (n : Nat) : ∀ r, selF k a l p n = some r → r.length ≤ n := by
  induction n with
  | zero => intro r h; simp [selF] at h; subst h; simp
  | succ n ih =>
    intro r h
    rw [selF] at h
    obtain ⟨s, hs, h⟩ := Option.bind_eq_some_iff.mp h
    obtain ⟨x, hx, h⟩ := Option.bind_eq_some_iff.mp h
    obtain ⟨b, hb, h⟩ := Option.bind_eq_some_iff.mp h
    have := ih s hs
    injection h with h
    subst h
    split <;> simp <;> omega
theorem selF_mono {k : Nat} {a : Int} {l : List Int} {p q : List Int → Option Bool} (hpq : ∀ x, LeO (p x) (q x)) (n : Nat) : LeO (selF k a l p n) (selF (k + 1) a l q n) := by
  induction n with
  | zero => exact LeO.refl _
  | succ n ih => exact LeO.bind ih fun _ => LeO.bind (impl_way.mono _ _ _ _) fun _ => LeO.bind (hpq _) fun _ => LeO.refl _
set_option maxHeartbeats 4000000 in
set_option maxRecDepth 100000 in
theorem startsThat_calls (k n : Nat) (hn : n ≤ 1000) (p : List Int → Option Bool) (g : Nat) (lb : Array Value) (eg : ∀ args w, (callFunc g args).run Try.prog w = .ok (.enter g args) w) (A0 : Option Addr) (c0 : Nat) (l0 : List Int) (r : List Int) (w : World)
    (hr0 : Kd.C (Kd.int .i64) w A0 l0.length l0) (hc0 : l0.length ≤ c0) (h : selF k (n : Int) l0 p n = some r)
    (hp : ∀ W A c (x : List Int) b, Kd.C (Kd.int .i64) W A x.length x → x.length ≤ c → Below w.heap.size w W → p x = some b → Calls Try.prog g (#[.slice A x.length c] ++ lb) W fun e w' => e = .returned (.bool b) ∧ Drawn0 W w') :
    Calls Try.prog 55 #[.agg #[.int .i64 (n : Int), .slice A0 l0.length c0], .func (.func g) #[] lb] w fun e w' => ∃ v0_ : Value, e = .returned v0_ ∧ Kd.R (Kd.int .i64) 3 w' w.heap.size (fun _ => True) v0_ r ∧ Below w.heap.size w w' := by
  have hu28 := Try.underlying26
  have HR := Aside0.mk hr0
  have HC := Aside0.mk hc0
  have HP := Aside0.mk hp
  have HS := Aside0.mk h
  have HA := Aside0.mk (selF_at n r h)
  have HN := Lib.hid hn
  have HB := Aside0.mk (Below.refl w.heap.size w)
  clear hr0 hc0 hp h hn
  go_enter Try.func55, Try.ntmps55
  go_wp2_with (first | ((with_reducible refine gate_dst (N := 2) rfl ?_); refine box_event ?hg (N := 2) ?hd (cs := #[.int .i64 (n : Int), .slice A0 l0.length c0]) (t := 26) ?hr ?_; (case hd => rfl); (case hg => rfl); (case hr => first | (go_simp; done) | (go_simp; rfl)); intro gb hg w4 hbox hb; have n0_ := Aside0.mk (below_step HB.out hb); have BK := Aside0.mk hbox; have GE := Aside0.mk ((by rw [hg]; exact Nat.le_refl _) : w.heap.size ≤ gb); clear HB; have HB := n0_; clear n0_; clear hb hbox hg; have hcz5_0 : w4.cell? ⟨gb, 0, none⟩ = some (.int .i64 (n : Int)) := (blk_cell BK.out 0).trans rfl; have hcz5_1 : w4.cell? ⟨gb, 1, none⟩ = some (.slice A0 l0.length c0) := (blk_cell BK.out 1).trans rfl; have hfz5_0 := blk_frozen BK.out 0; have hfz5_1 := blk_frozen BK.out 1) | ((with_reducible refine gate_dst (N := 7) rfl ?_); refine Kd.R_lit (Kd.int .i64) _ 3 ?hg (N := 7) ?hd (xs := ([] : List Int)) (inner := []) (ok := fun _ => True) (okp := fun _ => True) ?hr ?hp (fun _ hk => hk) trivial (Below.refl _ _) (Nat.le_refl _) (by simp) ?_; (case hd => rfl); (case hg => rfl); (case hr => first | (go_simp; done) | (go_simp; rfl)); (case hp => exact (Reps.none _ _)); intro v237 w7 ho8 hb hg_ hnew_; clear hg_ hnew_; have HO := Aside0.mk (Kd.R_lower ho8 (below_size HB.out)); have n1_ := Aside0.mk (blk_below (g := gb) (o := .cells #[.int .i64 (n : Int), .slice A0 l0.length c0] 26 (0, 0)) BK.out hb); have n2_ := Aside0.mk (below_step HB.out hb); clear BK; clear HB; have BK := n1_; have HB := n2_; clear n1_ n2_; clear hb ho8; have hcz9_0 : w7.cell? ⟨gb, 0, none⟩ = some (.int .i64 (n : Int)) := (blk_cell BK.out 0).trans rfl; have hcz9_1 : w7.cell? ⟨gb, 1, none⟩ = some (.slice A0 l0.length c0) := (blk_cell BK.out 1).trans rfl; have hfz9_0 := blk_frozen BK.out 0; have hfz9_1 := blk_frozen BK.out 1))
  go_loopg [5, 10] n (fun gg v5 v10 wr => ∃ (j : Nat) (s : List Int), j ≤ n ∧ n - j ≤ gg ∧ v10 = .int .i64 (j : Int) ∧ Aside0 (selF k (n : Int) l0 p j = some s) ∧ Aside0 (Kd.R (Kd.int .i64) 3 wr w.heap.size (fun _ => True) v5 s) ∧ Aside0 (wr.heap[gb]? = some (.cells #[.int .i64 (n : Int), .slice A0 l0.length c0] 26 (0, 0))) ∧ Aside0 (Below w.heap.size w wr))
  case atStart => exact ⟨0, [], Nat.zero_le _, by omega, rfl, ⟨rfl⟩, ⟨HO.out⟩, ⟨BK.out⟩, ⟨HB.out⟩⟩
  case round =>
    try clear hcz5_0
    try clear hcz5_1
    try clear hcz9_0
    try clear hcz9_1
    try clear hfz5_0
    try clear hfz5_1
    try clear hfz9_0
    try clear hfz9_1
    clear BK HB HO
    obtain ⟨j, s, hj, hgg, rfl, HF, HO, BK, HB⟩ := hrel
    have hcz14_0 : wr.cell? ⟨gb, 0, none⟩ = some (.int .i64 (n : Int)) := (blk_cell BK.out 0).trans rfl
    have hcz14_1 : wr.cell? ⟨gb, 1, none⟩ = some (.slice A0 l0.length c0) := (blk_cell BK.out 1).trans rfl
    have hfz14_0 := blk_frozen BK.out 0
    have hfz14_1 := blk_frozen BK.out 1
    by_cases hlt : j < n
    · have c1 : decide ((j : Int) < (n : Int)) = true := decide_eq_true (by omega)
      obtain ⟨s', x, b, h1, h2, h3, h4⟩ := HA.out j hlt
      rw [HF.out] at h1
      injection h1 with h1
      subst h1
      have hlen := selF_length j s HF.out
      have HW := Aside0.mk h2
      have HX := Aside0.mk h3
      have HF4 := Aside0.mk h4
      have HLT := Lib.hid hlt
      have HL := Lib.hid hlen
      have HW1 := Lib.hid (show wrap64 ((j : Int) + 1) = ((j + 1 : Nat) : Int) by have := HN.out; unfold wrap64; omega)
      clear h2 h3 h4 hlt hlen
      cases hb0 : b with
      | true =>
        subst hb0
        go_wp2_with (first | ((with_reducible refine gate_callee (f := 39) rfl ?_); refine goesL_ (some 16) rfl rfl Try.func39 (by kernel_rfl) rfl #[.agg #[.int .i64 (n : Int), .slice A0 l0.length c0], .int .i64 (j : Int)] rfl (by (try simp only [List.map_toArray, List.map_cons, List.map_nil]); first | done | rfl) ?_; (with_reducible refine (impl_way.calls k (n : Int) _ _ l0 (j : Int) x _ ?side1 ?side2 HW.out).mono ?_); (case side1 => exact (Kd.C_below HR.out HB.out)); (case side2 => exact HC.out); rintro e w15 ⟨v240, rfl, ho0, hb⟩; refine ⟨_, rfl, ?_⟩; have n0_ := Aside0.mk (Kd.R_elder' HO.out (Kd.R_base ho0) hb); have n1_ := Aside0.mk (Kd.R_lower (Kd.R_new' ho0 (Kd.R_lt HO.out)) (below_size HB.out)); have n2_ := Aside0.mk (blk_below (g := gb) (o := .cells #[.int .i64 (n : Int), .slice A0 l0.length c0] 26 (0, 0)) BK.out hb); have n3_ := Aside0.mk (below_step HB.out hb); clear HO; clear BK; clear HB; have HO := n0_; have HO2 := n1_; have BK := n2_; have HB := n3_; clear n0_ n1_ n2_ n3_; (try clear hb); (try clear ho0); obtain ⟨Ao16, co16, eo16⟩ := Kd.R_slice HO2.out; subst eo16) | (go_at_fn g; refine (HP.out _ Ao16 co16 x true ?fs1 ?fs2 ?fs3 HX.out).mono ?_; (case fs1 => exact (Kd.R_reads' HO2.out).2.2); (case fs2 => exact (Kd.R_reads' HO2.out).2.1); (case fs3 => exact HB.out); rintro e w' ⟨rfl, ⟨q', rfl⟩⟩; have n0_ := Aside0.mk (Kd.R_drewN HO.out q'); have n2_ := Aside0.mk (blk_drewN BK.out q'); have n3_ := Aside0.mk (pw_below_drewN HB.out q'); clear HO; clear BK; clear HB; clear HO2; have HO := n0_; have BK := n2_; have HB := n3_; clear n0_ n2_ n3_) | ((with_reducible refine gate_builtin (b := .append) (xs := #[.tmp 18, .tmp 20]) rfl ?_); at_builtin; refine Kd.R_append (Kd.int .i64) (w0 := w) w.heap.size rfl (.tmp 18) (.tmp 20) 24 3 (.int .i64 0) 8 rfl Try.underlying24 info3 rfl (by decide) (by omega) _ s (j : Int) [.int .i64 (j : Int)] (fun _ => True) (fun _ => False) rfl rfl ?aP (fun _ hk => hk.elim) ?aF ?aO ?aB ?aS ?aL ?_; (case aP => exact rfl); (case aB => exact (by repeat (first | (with_reducible first | exact HB.out | apply below_alloc | apply pw_below_drewN | apply below_drew1) | exact HB.out))); (case aF => exact (fun k_ hk => trivial)); (case aO => exact (by (with_reducible repeat (first | apply Kd.R_alloc | apply Kd.R_drewN | apply Kd.R_drew)); exact Kd.R_mono HO.out (fun _ _ => trivial))); (case aS => exact (below_size (by repeat (first | (with_reducible first | exact HB.out | apply below_alloc | apply pw_below_drewN | apply below_drew1) | exact HB.out)))); (case aL => exact (by have := HL.out; have := HN.out; have := HLT.out; omega)); intro v244 w17 ho hb hg hat; have n0_ := Aside0.mk (blk_grown (g := gb) (o := .cells #[.int .i64 (n : Int), .slice A0 l0.length c0] 26 (0, 0)) (by (with_reducible repeat (first | refine blk_drewN ?_ _ | refine blk_drew ?_ | refine blk_alloc ?_ _)); exact BK.out) hg (Kd.R_ne HO.out BK.out (by decide))); have n2_ := Aside0.mk (hb); have n3_ := Aside0.mk (ho); clear BK; clear HB; clear HO; have BK := n0_; have HB := n2_; have HO := n3_; clear n0_ n2_ n3_; clear ho hb hg hat))
        go_roundg (n - (j + 1))
        case measure => have := HLT.out; omega
        case rel => exact ⟨j + 1, s ++ [(j : Int)], by have := HLT.out; omega, by omega, by rw [← HW1.out], HF4, ⟨Kd.R_mono HO.out (fun _ _ => trivial)⟩, BK, HB⟩
      | false =>
        subst hb0
        go_wp2_with (first | ((with_reducible refine gate_callee (f := 39) rfl ?_); refine goesL_ (some 16) rfl rfl Try.func39 (by kernel_rfl) rfl #[.agg #[.int .i64 (n : Int), .slice A0 l0.length c0], .int .i64 (j : Int)] rfl (by (try simp only [List.map_toArray, List.map_cons, List.map_nil]); first | done | rfl) ?_; (with_reducible refine (impl_way.calls k (n : Int) _ _ l0 (j : Int) x _ ?side1 ?side2 HW.out).mono ?_); (case side1 => exact (Kd.C_below HR.out HB.out)); (case side2 => exact HC.out); rintro e w15 ⟨v240, rfl, ho0, hb⟩; refine ⟨_, rfl, ?_⟩; have n0_ := Aside0.mk (Kd.R_elder' HO.out (Kd.R_base ho0) hb); have n1_ := Aside0.mk (Kd.R_lower (Kd.R_new' ho0 (Kd.R_lt HO.out)) (below_size HB.out)); have n2_ := Aside0.mk (blk_below (g := gb) (o := .cells #[.int .i64 (n : Int), .slice A0 l0.length c0] 26 (0, 0)) BK.out hb); have n3_ := Aside0.mk (below_step HB.out hb); clear HO; clear BK; clear HB; have HO := n0_; have HO2 := n1_; have BK := n2_; have HB := n3_; clear n0_ n1_ n2_ n3_; (try clear hb); (try clear ho0); obtain ⟨Ao16, co16, eo16⟩ := Kd.R_slice HO2.out; subst eo16) | (go_at_fn g; refine (HP.out _ Ao16 co16 x false ?fs1 ?fs2 ?fs3 HX.out).mono ?_; (case fs1 => exact (Kd.R_reads' HO2.out).2.2); (case fs2 => exact (Kd.R_reads' HO2.out).2.1); (case fs3 => exact HB.out); rintro e w' ⟨rfl, ⟨q', rfl⟩⟩; have n0_ := Aside0.mk (Kd.R_drewN HO.out q'); have n2_ := Aside0.mk (blk_drewN BK.out q'); have n3_ := Aside0.mk (pw_below_drewN HB.out q'); clear HO; clear BK; clear HB; clear HO2; have HO := n0_; have BK := n2_; have HB := n3_; clear n0_ n2_ n3_))
        go_roundg (n - (j + 1))
        case measure => have := HLT.out; omega
        case rel => exact ⟨j + 1, s, by have := HLT.out; omega, by omega, by rw [← HW1.out], HF4, ⟨Kd.R_mono HO.out (fun _ _ => trivial)⟩, BK, HB⟩
    · have c1 : decide ((j : Int) < (n : Int)) = false := decide_eq_false (by omega)
      obtain rfl : j = n := by omega
      have e : s = r := by have h1 := HF.out; rw [HS.out] at h1; injection h1 with h1; exact h1.symm
      subst e
      clear hlt hj
      go_wp2
      go_ret
      exact ⟨_, rfl, HO.out, HB.out⟩


/-! ### impl_overs: function 57 -/
def impl_overs.l0 : Nat → List Int → Int → Int → Option (Int)
 | 0, _, _, _ => none
 | k + 1, x0, x3, x4 => if x4 < (x0.length : Int) then (if 0 ≤ x4 then (if 0 ≤ (wrap64 (x4 - 1)) then (if (wrap64 (x4 - 1)) < (x0.length : Int) then (if (rd x0 x4) = (rd x0 (wrap64 (x4 - 1))) then (impl_overs.l0 k x0 x3 (wrap64 (x4 + 1))) else (impl_overs.l0 k x0 (wrap64 (x3 + 1)) (wrap64 (x4 + 1)))) else (none)) else (none)) else (none)) else (some x3)
def impl_overs.f (k : Nat) (l0 : List Int) : Option (Int) := impl_overs.l0 k l0 0 1
theorem impl_overs.mono_l : ∀ k, (∀ y0 y1 y2, LeO (impl_overs.l0 k y0 y1 y2) (impl_overs.l0 (k + 1) y0 y1 y2))
 | 0 => fun _ _ _ r h => by simp [impl_overs.l0] at h
 | k + 1 => by
  have ih0 := impl_overs.mono_l k
  ·intro y0 y1 y2
   unfold impl_overs.l0
   repeat' first
   | (with_reducible exact ih0 _ _ _)
   | (with_reducible exact LeO.refl _)
   | (with_reducible exact LeO.none _)
   | (with_reducible refine LeO.ite ?_ ?_)
   | (with_reducible refine LeO.bind ?_ (fun _ => ?_))
   | exact LeO.none _
   | refine LeO.ite ?_ ?_
   | refine LeO.bind ?_ (fun _ => ?_)
theorem impl_overs.mono : ∀ a0 k, LeO (impl_overs.f k a0) (impl_overs.f (k + 1) a0) := by
 intro a0 k
 have ih0 := impl_overs.mono_l k
 unfold impl_overs.f
 repeat' first
  | (with_reducible exact ih0 _ _ _)
  | (with_reducible exact LeO.refl _)
  | (with_reducible exact LeO.none _)
  | (with_reducible refine LeO.ite ?_ ?_)
  | (with_reducible refine LeO.bind ?_ (fun _ => ?_))
  | exact LeO.none _
  | refine LeO.ite ?_ ?_
  | refine LeO.bind ?_ (fun _ => ?_)
set_option maxHeartbeats 8000000 in
set_option maxRecDepth 100000 in
theorem impl_overs.calls (k : Nat) (A0 : Option Addr) (c0 : Nat) (l0 : List Int) (r : Int) (w : World) (hr0 : Kd.C (Kd.int .i64) w A0 l0.length l0) (hc0 : l0.length ≤ c0) (h : impl_overs.f k l0 = some r) :
 Calls Try.prog 57 #[.slice A0 l0.length c0] w fun e w' => e = .returned (.int .i64 r) ∧ Drawn0 w w' := by
 have HR0 := a_ hr0
 have HC0 := a_ hc0
 clear hr0 hc0
 have H : (impl_overs.l0 k l0 0 1) = some r := h
 clear h
 have H' := a_ H
 clear H
 go_enter Try.func57, Try.ntmps57
 go_wp2
 repeat (go_quiet (fail); try go_wp2)
 go_loopg [3, 4] k (fun kq v3 v4 w' => ∃ (x3_1 : Int) (x4_1 : Int), v3 = .int .i64 x3_1 ∧ v4 = .int .i64 x4_1 ∧ Aside0 (impl_overs.l0 kq l0 x3_1 x4_1 = some r) ∧ Aside0 (kq ≤ k) ∧ Drawn0 w w')
 case atStart => exact ⟨(0), (1), rs_, rs_, H', ⟨Nat.le_refl _⟩, dr_⟩
 case round =>
  clear H'
  obtain ⟨x3_1, x4_1, rfl, rfl, HA, HK1, ⟨m1, rfl⟩⟩ := hrel
  cases gk with
  | zero => exact absurd HA.out (by simp [impl_overs.l0])
  | succ k1 =>
   have H := HA.out
   clear HA
   simp only [impl_overs.l0] at H
   by_cases c2 : x4_1 < (l0.length : Int)
   rotate_left
   ·rw [if_neg c2] at H
    have c2b0 : decide (x4_1 < (l0.length : Int)) = false := decide_eq_false c2
    clear c2
    obtain rfl := Option.some.inj H
    go_wp2
    repeat (go_quiet (fail); try go_wp2)
    go_ret
    exact ⟨rs_, dr_⟩
   rw [if_pos c2] at H
   have c2b0 : decide (x4_1 < (l0.length : Int)) = true := decide_eq_true c2
   clear c2
   by_cases c3 : 0 ≤ x4_1
   rotate_left
   ·rw [if_neg c3] at H
    cases H
   rw [if_pos c3] at H
   have c3b0 : decide (0 ≤ x4_1) = true := decide_eq_true c3
   clear c3
   obtain ⟨ji4, hji4⟩ : ∃ j_ : Int, (wrap64 (x4_1 - 1)) = j_ := ⟨_, rfl⟩
   replace H : (if 0 ≤ (ji4) then (if (ji4) < (l0.length : Int) then (if (rd l0 x4_1) = (rd l0 (ji4)) then (impl_overs.l0 k1 l0 x3_1 (wrap64 (x4_1 + 1))) else (impl_overs.l0 k1 l0 (wrap64 (x3_1 + 1)) (wrap64 (x4_1 + 1)))) else (none)) else (none)) = some r := by first | (rw [hji4] at H; exact H) | (simp only [hji4] at H ⊢; exact H)
   have hji4w : (IntKind.i64.wrap (x4_1 - 1)) = ji4 := (i64_w _).trans hji4
   by_cases c5 : 0 ≤ (ji4)
   rotate_left
   ·rw [if_neg c5] at H
    cases H
   rw [if_pos c5] at H
   have c5b0 : decide (0 ≤ (ji4)) = true := decide_eq_true c5
   clear c5
   by_cases c6 : (ji4) < (l0.length : Int)
   rotate_left
   ·rw [if_neg c6] at H
    cases H
   rw [if_pos c6] at H
   have c6b0 : decide ((ji4) < (l0.length : Int)) = true := decide_eq_true c6
   clear c6
   by_cases c7 : (rd l0 x4_1) = (rd l0 (ji4))
   rotate_left
   ·rw [if_neg c7] at H
    have c7b0 : ((rd l0 x4_1) == (rd l0 (ji4))) = false := beq_eq_false_iff_ne.mpr c7
    have c7b1 : ((rd l0 x4_1) != (rd l0 (ji4))) = true := bne_iff_ne.mpr c7
    have H' := a_ H
    clear H
    have p466 : 0 ≤ (x4_1 : Int) := od_
    have q466 : x4_1 < (l0.length : Int) := od_
    obtain ⟨ad466, e466, hx466_0⟩ := Kd.at_int HR0.out x4_1 p466 q466
    cases e466
    replace p466 := eq_true p466
    replace q466 := eq_true q466
    have p467 : 0 ≤ ((ji4) : Int) := od_
    have q467 : (ji4) < (l0.length : Int) := od_
    obtain ⟨ad467, e467, hx467_0⟩ := Kd.at_int HR0.out (ji4) p467 q467
    obtain rfl : ad466 = ad467 := (by injection e467)
    replace p467 := eq_true p467
    replace q467 := eq_true q467
    go_wp2
    repeat (go_quiet (fail); try go_wp2)
    go_roundg k1
    case measure => have := HK1.out; omega
    case rel => exact ⟨(wrap64 (x3_1 + 1)), (wrap64 (x4_1 + 1)), rs_, rs_, H', ⟨by have := HK1.out; omega⟩, dr_⟩
   rw [if_pos c7] at H
   have c7b0 : ((rd l0 x4_1) == (rd l0 (ji4))) = true := beq_iff_eq.mpr c7
   have c7b1 : ((rd l0 x4_1) != (rd l0 (ji4))) = false := bne_eq_false_iff_eq.mpr c7
   clear c7
   have H' := a_ H
   clear H
   have p466 : 0 ≤ (x4_1 : Int) := od_
   have q466 : x4_1 < (l0.length : Int) := od_
   obtain ⟨ad466, e466, hx466_0⟩ := Kd.at_int HR0.out x4_1 p466 q466
   cases e466
   replace p466 := eq_true p466
   replace q466 := eq_true q466
   have p467 : 0 ≤ ((ji4) : Int) := od_
   have q467 : (ji4) < (l0.length : Int) := od_
   obtain ⟨ad467, e467, hx467_0⟩ := Kd.at_int HR0.out (ji4) p467 q467
   obtain rfl : ad466 = ad467 := (by injection e467)
   replace p467 := eq_true p467
   replace q467 := eq_true q467
   go_wp2
   repeat (go_quiet (fail); try go_wp2)
   go_roundg k1
   case measure => have := HK1.out; omega
   case rel => exact ⟨(x3_1), (wrap64 (x4_1 + 1)), rs_, rs_, H', ⟨by have := HK1.out; omega⟩, dr_⟩

/-! ### impl_StaysOn: function 21 -/
def impl_StaysOn.f (k : Nat) (a0_0 : Int) (l0_1 : List Int) : Option (List Int × Bool) := (impl_isLadder.f a0_0 l0_1).bind fun t => if t = true then ((selF k a0_0 l0_1 (fun x => (impl_overs.f k x).bind fun c => some (c == 0)) a0_0.toNat).bind fun s => some (s, true)) else some ([], false)
theorem impl_StaysOn.mono : ∀ a0 a1 k, LeO (impl_StaysOn.f k a0 a1) (impl_StaysOn.f (k + 1) a0 a1) := by
  intro a0 a1 k
  unfold impl_StaysOn.f
  refine LeO.bind (LeO.refl _) fun _ => LeO.ite (LeO.bind (selF_mono (fun x => LeO.bind (impl_overs.mono _ _) fun _ => LeO.refl _) _) fun _ => LeO.refl _) (LeO.refl _)
theorem StaysOn1_calls (k : Nat) (A : Option Addr) (c : Nat) (x : List Int) (b : Bool) (W : World) (hC : Kd.C (Kd.int .i64) W A x.length x) (hc : x.length ≤ c) (h : ((impl_overs.f k x).bind fun c => some (c == 0)) = some b) :
    Calls Try.prog 56 #[.slice A x.length c] W fun e w' => e = .returned (.bool b) ∧ Drawn0 W w' := by
  obtain ⟨t, ht, hb⟩ := Option.bind_eq_some_iff.mp h
  injection hb with hb
  have hcall := impl_overs.calls k A c x t W hC hc ht
  subst hb
  clear h ht
  go_enter Try.func56, Try.ntmps56
  go_wp2_with (go_at_call 57; refine hcall.mono ?_; rintro e w' ⟨rfl, ⟨q, rfl⟩⟩)
  go_ret
  exact ⟨by first | rfl | simp, ⟨_, rfl⟩⟩
set_option maxHeartbeats 4000000 in
set_option maxRecDepth 100000 in
theorem impl_StaysOn.calls (k : Nat) (a0_0 : Int) (A0_1 : Option Addr) (c0_1 : Nat) (l0_1 : List Int) (r1 : List Int) (r2 : Bool) (w : World) (hr0_1 : Kd.C (Kd.int .i64) w A0_1 l0_1.length l0_1) (hc0_1 : l0_1.length ≤ c0_1) (h : impl_StaysOn.f k a0_0 l0_1 = some (r1, r2)) :
    Calls Try.prog 21 #[.agg #[.int .i64 a0_0, .slice A0_1 l0_1.length c0_1]] w fun e w' => ∃ v0_ : Value, e = .returned (.tuple #[v0_, .bool r2]) ∧ Kd.R (Kd.int .i64) 3 w' w.heap.size (fun _ => True) v0_ r1 ∧ Below w.heap.size w w' := by
  have hu28 := Try.underlying26
  have HR := Aside0.mk hr0_1
  have HC := Aside0.mk hc0_1
  have HB := Aside0.mk (Below.refl w.heap.size w)
  have eg : ∀ args w, (callFunc 56 args).run Try.prog w = .ok (.enter 56 args) w := enters_of Try.func56 (by kernel_rfl) rfl
  have EG := Aside0.mk eg
  obtain ⟨t, ht, h⟩ := Option.bind_eq_some_iff.mp h
  have HT := Aside0.mk ht
  clear hr0_1 hc0_1 ht eg
  cases t with
  | false =>
    rw [if_neg (by simp)] at h
    simp only [Option.some.injEq, Prod.mk.injEq] at h
    obtain ⟨rfl, rfl⟩ := h
    go_enter Try.func21, Try.ntmps21
    go_wp2_with (first | ((with_reducible refine gate_dst (N := 1) rfl ?_); refine box_event ?hg (N := 1) ?hd (cs := #[.int .i64 a0_0, .slice A0_1 l0_1.length c0_1]) (t := 26) ?hr ?_; (case hd => rfl); (case hg => rfl); (case hr => first | (go_simp; done) | (go_simp; rfl)); intro gb hg w4 hbox hb; have n0_ := Aside0.mk (below_step HB.out hb); have BK := Aside0.mk hbox; clear HB; have HB := n0_; clear n0_; clear hb hbox hg; have hcz5_0 : w4.cell? ⟨gb, 0, none⟩ = some (.int .i64 a0_0) := (blk_cell BK.out 0).trans rfl; have hcz5_1 : w4.cell? ⟨gb, 1, none⟩ = some (.slice A0_1 l0_1.length c0_1) := (blk_cell BK.out 1).trans rfl; have hfz5_0 := blk_frozen BK.out 0; have hfz5_1 := blk_frozen BK.out 1) | ((with_reducible refine gate_callee (f := 40) rfl ?_); refine goesL_ (some 5) rfl rfl Try.func40 (by kernel_rfl) rfl #[.agg #[.int .i64 a0_0, .slice A0_1 l0_1.length c0_1]] rfl (by (try simp only [List.map_toArray, List.map_cons, List.map_nil]); first | done | rfl) ?_; (with_reducible refine (impl_isLadder.calls a0_0 _ _ l0_1 false _ ?side1 ?side2 HT.out).mono ?_); (case side1 => exact (Kd.C_below HR.out HB.out)); (case side2 => exact HC.out); rintro e w6 ⟨rfl, hb⟩; refine ⟨_, rfl, ?_⟩; have n1_ := Aside0.mk (below_step HB.out hb); clear HB; have HB := n1_; clear n1_ hb))
    go_ret2
    exact ⟨_, rfl, Kd.R_nil _ _ _ _ _, by repeat (first | exact HB.out | apply pw_below_drewN)⟩
  | true =>
    rw [if_pos rfl] at h
    obtain ⟨s, hs, h⟩ := Option.bind_eq_some_iff.mp h
    simp only [Option.some.injEq, Prod.mk.injEq] at h
    obtain ⟨rfl, rfl⟩ := h
    have ha : 2 ≤ a0_0 ∧ a0_0 ≤ 8 := by
      have h1 : isLadderB a0_0 l0_1 = true := Option.some.inj HT.out
      unfold isLadderB inB at h1
      simp at h1
      exact h1.1
    obtain ⟨n, rfl⟩ : ∃ n : Nat, a0_0 = n := ⟨a0_0.toNat, by omega⟩
    have HN := Lib.hid ha
    rw [show ((n : Int)).toNat = n from by omega] at hs
    have HS := Aside0.mk hs
    clear ha hs
    go_enter Try.func21, Try.ntmps21
    go_wp2_with (first | ((with_reducible refine gate_dst (N := 1) rfl ?_); refine box_event ?hg (N := 1) ?hd (cs := #[.int .i64 (n : Int), .slice A0_1 l0_1.length c0_1]) (t := 26) ?hr ?_; (case hd => rfl); (case hg => rfl); (case hr => first | (go_simp; done) | (go_simp; rfl)); intro gb hg w4 hbox hb; have n0_ := Aside0.mk (below_step HB.out hb); have BK := Aside0.mk hbox; clear HB; have HB := n0_; clear n0_; clear hb hbox hg; have hcz5_0 : w4.cell? ⟨gb, 0, none⟩ = some (.int .i64 (n : Int)) := (blk_cell BK.out 0).trans rfl; have hcz5_1 : w4.cell? ⟨gb, 1, none⟩ = some (.slice A0_1 l0_1.length c0_1) := (blk_cell BK.out 1).trans rfl; have hfz5_0 := blk_frozen BK.out 0; have hfz5_1 := blk_frozen BK.out 1) | ((with_reducible refine gate_callee (f := 40) rfl ?_); refine goesL_ (some 5) rfl rfl Try.func40 (by kernel_rfl) rfl #[.agg #[.int .i64 (n : Int), .slice A0_1 l0_1.length c0_1]] rfl (by (try simp only [List.map_toArray, List.map_cons, List.map_nil]); first | done | rfl) ?_; (with_reducible refine (impl_isLadder.calls (n : Int) _ _ l0_1 true _ ?side1 ?side2 HT.out).mono ?_); (case side1 => exact (Kd.C_below HR.out HB.out)); (case side2 => exact HC.out); rintro e w6 ⟨rfl, hb⟩; refine ⟨_, rfl, ?_⟩; have n0_ := Aside0.mk (blk_below (g := gb) (o := .cells #[.int .i64 (n : Int), .slice A0_1 l0_1.length c0_1] 26 (0, 0)) BK.out hb); have n1_ := Aside0.mk (below_step HB.out hb); clear BK HB; have BK := n0_; have HB := n1_; clear n0_ n1_ hb; have hcz7_0 : w6.cell? ⟨gb, 0, none⟩ = some (.int .i64 (n : Int)) := (blk_cell BK.out 0).trans rfl; have hcz7_1 : w6.cell? ⟨gb, 1, none⟩ = some (.slice A0_1 l0_1.length c0_1) := (blk_cell BK.out 1).trans rfl; have hfz7_0 := blk_frozen BK.out 0; have hfz7_1 := blk_frozen BK.out 1) | ((with_reducible refine gate_callee (f := 55) rfl ?_); refine goesL_ (some 8) rfl rfl Try.func55 (by kernel_rfl) rfl #[.agg #[.int .i64 (n : Int), .slice A0_1 l0_1.length c0_1], .func (.func 56) #[] #[]] rfl (by (try simp only [List.map_toArray, List.map_cons, List.map_nil]); first | done | rfl) ?_; (with_reducible refine (startsThat_calls k n ?side0 (fun x => (impl_overs.f k x).bind fun c => some (c == 0)) 56 #[] EG.out _ _ l0_1 s _ ?side1 ?side2 HS.out ?side3).mono ?_); (case side0 => exact (by have := HN.out; omega)); (case side1 => exact (Kd.C_below HR.out HB.out)); (case side2 => exact HC.out); (case side3 => exact fun W A c x b h1 h2 _ h4 => StaysOn1_calls k A c x b W h1 h2 h4); rintro e w8 ⟨v9, rfl, ho, hb⟩; refine ⟨_, rfl, ?_⟩; have HO := Aside0.mk (Kd.R_lower ho (below_size HB.out)); have n1_ := Aside0.mk (below_step HB.out hb); clear HB; have HB := n1_; clear n1_ hb ho))
    go_ret2
    exact ⟨_, rfl, Kd.R_mono HO.out (fun _ _ => trivial), by repeat (first | exact HB.out | apply pw_below_drewN)⟩


end Go.Proofs.Ytakddaclgppdjaa.B
