/- The walks of functions of the given program and of its reference: each call of the machine returns what the plain Lean function of the same name says. Conditions: those in each statement. (Written by this session's program over the kit's print.) -/
import Derived.Test.YtakddaclgppdjaaB0
import Derived.Test.YtakddaclgppdjaaB1
import Derived.Test.YtakddaclgppdjaaB2
import Derived.Test.YtakddaclgppdjaaB3
namespace Go.Proofs.Ytakddaclgppdjaa.B
open Go.RowKit Go.Proofs.YtakddaclgppdjaaW.PrintWords Go.Proofs.YtakddaclgppdjaaW.PrintLast Go.Proofs.YtakddaclgppdjaaW.PrintMore
attribute [local go_sem] max2_int min2_int max_two min_two max_three min_three max_four min_four   -- for this text's walks alone
set_option linter.unusedVariables false
set_option linter.unusedSimpArgs false

/-! ### laws_kHas: function 22 -/
def laws_kHas.l0 : Nat → Int → List Int → Int → Int → Option (Bool)
 | 0, _, _, _, _ => none
 | k + 1, x1, x7, x8, x9 => if x9 < x8 then (if 0 ≤ x9 then (if x9 < (x7.length : Int) then (if (rd x7 x9) = x1 then (some true) else (laws_kHas.l0 k x1 x7 x8 (wrap64 (x9 + 1)))) else (none)) else (none)) else (some false)
def laws_kHas.f (k : Nat) (l0 : List Int) (a1 : Int) : Option (Bool) := laws_kHas.l0 k a1 l0 (l0.length : Int) 0
theorem laws_kHas.mono_l : ∀ k, (∀ y0 y1 y2 y3, LeO (laws_kHas.l0 k y0 y1 y2 y3) (laws_kHas.l0 (k + 1) y0 y1 y2 y3))
 | 0 => fun _ _ _ _ r h => by simp [laws_kHas.l0] at h
 | k + 1 => by
  have ih0 := laws_kHas.mono_l k
  ·intro y0 y1 y2 y3
   unfold laws_kHas.l0
   repeat' first
   | (with_reducible exact ih0 _ _ _ _)
   | (with_reducible exact LeO.refl _)
   | (with_reducible exact LeO.none _)
   | (with_reducible refine LeO.ite ?_ ?_)
   | (with_reducible refine LeO.bind ?_ (fun _ => ?_))
   | exact LeO.none _
   | refine LeO.ite ?_ ?_
   | refine LeO.bind ?_ (fun _ => ?_)
theorem laws_kHas.mono : ∀ a0 a1 k, LeO (laws_kHas.f k a0 a1) (laws_kHas.f (k + 1) a0 a1) := by
 intro a0 a1 k
 have ih0 := laws_kHas.mono_l k
 unfold laws_kHas.f
 repeat' first
  | (with_reducible exact ih0 _ _ _ _)
  | (with_reducible exact LeO.refl _)
  | (with_reducible exact LeO.none _)
  | (with_reducible refine LeO.ite ?_ ?_)
  | (with_reducible refine LeO.bind ?_ (fun _ => ?_))
  | exact LeO.none _
  | refine LeO.ite ?_ ?_
  | refine LeO.bind ?_ (fun _ => ?_)
set_option maxHeartbeats 8000000 in
set_option maxRecDepth 100000 in
theorem laws_kHas.calls (k : Nat) (A0 : Option Addr) (c0 : Nat) (l0 : List Int) (a1 : Int) (r : Bool) (w : World) (hr0 : Kd.C (Kd.int .i64) w A0 l0.length l0) (hc0 : l0.length ≤ c0) (h : laws_kHas.f k l0 a1 = some r) :
 Calls Try.prog 22 #[.slice A0 l0.length c0, .int .i64 a1] w fun e w' => e = .returned (.bool r) ∧ Drawn0 w w' := by
 have HR0 := a_ hr0
 have HC0 := a_ hc0
 clear hr0 hc0
 have H : (laws_kHas.l0 k a1 l0 (l0.length : Int) 0) = some r := h
 clear h
 have H' := a_ H
 clear H
 go_enter Try.func22, Try.ntmps22
 go_wp2
 go_loopg [9] k (fun kq v9 w' => ∃ (x9_1 : Int), v9 = .int .i64 x9_1 ∧ Aside0 (laws_kHas.l0 kq a1 l0 (l0.length : Int) x9_1 = some r) ∧ Aside0 (kq ≤ k) ∧ Drawn0 w w')
 case atStart => exact ⟨(0), rs_, H', ⟨Nat.le_refl _⟩, dr_⟩
 case round =>
  clear H'
  try clear c2
  try clear p2
  obtain ⟨x9_1, rfl, HA, HK1, ⟨m1, rfl⟩⟩ := hrel
  cases gk with
  | zero => exact absurd HA.out (by simp [laws_kHas.l0])
  | succ k1 =>
   have H := HA.out
   clear HA
   simp only [laws_kHas.l0] at H
   by_cases c3 : x9_1 < (l0.length : Int)
   rotate_left
   ·rw [if_neg c3] at H
    have c3b0 : decide (x9_1 < (l0.length : Int)) = false := decide_eq_false c3
    clear c3
    obtain rfl := Option.some.inj H
    go_wp2
    go_ret
    exact ⟨rs_, dr_⟩
   rw [if_pos c3] at H
   have c3b0 : decide (x9_1 < (l0.length : Int)) = true := decide_eq_true c3
   clear c3
   by_cases c4 : 0 ≤ x9_1
   rotate_left
   ·rw [if_neg c4] at H
    cases H
   rw [if_pos c4] at H
   have c4b0 : decide (0 ≤ x9_1) = true := decide_eq_true c4
   clear c4
   by_cases c5 : x9_1 < (l0.length : Int)
   rotate_left
   ·rw [if_neg c5] at H
    cases H
   rw [if_pos c5] at H
   have c5b0 : decide (x9_1 < (l0.length : Int)) = true := decide_eq_true c5
   clear c5
   by_cases c6 : (rd l0 x9_1) = a1
   ·rw [if_pos c6] at H
    have c6b0 : ((rd l0 x9_1) == a1) = true := beq_iff_eq.mpr c6
    have c6b1 : ((rd l0 x9_1) != a1) = false := bne_eq_false_iff_eq.mpr c6
    clear c6
    obtain rfl := Option.some.inj H
    have p468 : 0 ≤ (x9_1 : Int) := od_
    have q468 : x9_1 < (l0.length : Int) := od_
    obtain ⟨ad468, e468, hx468_0⟩ := Kd.at_int HR0.out x9_1 p468 q468
    cases e468
    replace p468 := eq_true p468
    replace q468 := eq_true q468
    go_wp2
    go_ret
    exact ⟨rs_, dr_⟩
   rw [if_neg c6] at H
   have c6b0 : ((rd l0 x9_1) == a1) = false := beq_eq_false_iff_ne.mpr c6
   have c6b1 : ((rd l0 x9_1) != a1) = true := bne_iff_ne.mpr c6
   have H' := a_ H
   clear H
   have p468 : 0 ≤ (x9_1 : Int) := od_
   have q468 : x9_1 < (l0.length : Int) := od_
   obtain ⟨ad468, e468, hx468_0⟩ := Kd.at_int HR0.out x9_1 p468 q468
   cases e468
   replace p468 := eq_true p468
   replace q468 := eq_true q468
   go_wp2
   go_roundg k1
   case measure => have := HK1.out; omega
   case rel => exact ⟨(wrap64 (x9_1 + 1)), rs_, H', ⟨by have := HK1.out; omega⟩, dr_⟩

/-! ### spec_DrawBesideLadders: function 23 -/
def spec_DrawBesideLadders.f (k : Nat) (l0 : List Int) : Option (Int × List Int × Int × List Int) := (spec_l1Cur_sureLadder.f k l0 0 0 5 8).bind fun bt472 => ((spec_l1Cur_sureLadder.f k l0 bt472.2.2.1 bt472.2.2.2 5 8).bind fun bt478 => (some (bt472.1, bt472.2.1, bt478.1, bt478.2.1)))
theorem spec_DrawBesideLadders.mono : ∀ a0 k, LeO (spec_DrawBesideLadders.f k a0) (spec_DrawBesideLadders.f (k + 1) a0) := by
 intro a0 k
 unfold spec_DrawBesideLadders.f
 repeat' first
  | (with_reducible exact spec_l1Cur_sureLadder.mono _ _ _ _ _ _)
  | (with_reducible exact LeO.refl _)
  | (with_reducible exact LeO.none _)
  | (with_reducible refine LeO.ite ?_ ?_)
  | (with_reducible refine LeO.bind ?_ (fun _ => ?_))
  | exact LeO.none _
  | refine LeO.ite ?_ ?_
  | refine LeO.bind ?_ (fun _ => ?_)
set_option maxHeartbeats 8000000 in
set_option maxRecDepth 100000 in
theorem spec_DrawBesideLadders.calls (k : Nat) (A0 : Option Addr) (c0 : Nat) (l0 : List Int) (r1 : Int) (r2 : List Int) (r3 : Int) (r4 : List Int) (w : World) (hr0 : Kd.C (Kd.int .u8) w A0 l0.length l0) (hc0 : l0.length ≤ c0) (h : spec_DrawBesideLadders.f k l0 = some (r1, r2, r3, r4)) :
 Calls Try.prog 23 #[.slice A0 l0.length c0] w fun e w' => ∃ v1_ v3_ : Value, e = .returned (.tuple #[.agg #[.int .i64 r1, v1_], .agg #[.int .i64 r3, v3_]]) ∧ Kd.R (Kd.int .i64) 3 w' w.heap.size (fun k_ => some k_ ≠ (v3_ : Value).ownBlock) v1_ r2 ∧ Kd.R (Kd.int .i64) 3 w' w.heap.size (fun k_ => some k_ ≠ (v1_ : Value).ownBlock) v3_ r4 ∧ Below w.heap.size w w' := by
 have hu26 := Try.underlying26
 have hu63 := Try.underlying63
 have HR0 := a_ hr0
 have HC0 := a_ hc0
 clear hr0 hc0
 have HB := a_ (Below.refl w.heap.size w)
 have H : ((spec_l1Cur_sureLadder.f k l0 0 0 5 8).bind fun bt472 => ((spec_l1Cur_sureLadder.f k l0 bt472.2.2.1 bt472.2.2.2 5 8).bind fun bt478 => (some (bt472.1, bt472.2.1, bt478.1, bt478.2.1)))) = some (r1, r2, r3, r4) := h
 clear h
 obtain ⟨⟨t472, t473, t476, t477⟩, A2, H⟩ := ob_ H
 (try dsimp only at H)
 obtain ⟨⟨t478, t479, t482, t483⟩, A3, H⟩ := ob_ H
 (try dsimp only at H)
 simp only [Option.some.injEq, Prod.mk.injEq] at H
 obtain ⟨rfl, rfl, rfl, rfl⟩ := H
 go_enter Try.func23, Try.ntmps23
 go_wp2_with (first | ((with_reducible refine gate_dst (N := 2) rfl ?_); refine bx_ #[.int .i64 0, .slice none 0 0] 26 ?_ 2; intro gb469 hg w4 hbox hb; have BK469 := a_ (hbox); have GW469 := gw_ HB hg; have GE469 := gw_ HB hg; replace HB := Bs_ HB hb; clear hb hbox hg) | ((with_reducible refine gate_dst (N := 3) rfl ?_); refine bx_ #[.int .i64 0, .slice none 0 0] 26 ?_ 3; intro gb470 hg w5 hbox hb; have BK470 := a_ (hbox); have GW470 := gw_ HB hg; have GE470 := gw_ HB hg; replace HB := Bs_ HB hb; have NB469_470 := nbl_ BK469 hg; have NB470_469 := nbg_ BK469 hg; replace BK469 := blkB_ BK469 hb; clear hb hbox hg) | ((with_reducible refine gate_dst (N := 7) rfl ?_); refine bx_ #[.slice A0 l0.length c0, .int .i64 0, .int .u64 0] 63 ?_ 7; intro gb471 hg w6 hbox hb; have HI471 := a_ ((⟨_, _, hbox, (by rw [hg]; exact (below_size (Bl_ HB)) : w.heap.size ≤ gb471), HR0.out⟩ : IsS63 w w6 gb471 l0 0 0)); have GW471 := gw_ HB hg; have GE471 := gw_ HB hg; replace HB := Bs_ HB hb; have NB469_471 := nbl_ BK469 hg; have NB471_469 := nbg_ BK469 hg; replace BK469 := blkB_ BK469 hb; have NB470_471 := nbl_ BK470 hg; have NB471_470 := nbg_ BK470 hg; replace BK470 := blkB_ BK470 hb; clear hb hbox hg) | ((with_reducible refine gate_callee (f := 58) rfl ?_); refine gm_ (some 9) Try.func58 #[.pointer (some ⟨gb471, 0, none⟩), .int .i64 5, .int .i64 8] rfl ?_; (with_reducible refine (spec_l1Cur_sureLadder.calls k gb471 l0 0 0 5 8 t472 t473 t476 t477 w _ ?side1 ?side2 A2.out).mono ?_); (case side1 => repeat (first | (with_reducible first | exact HI471.out | apply IsS63.alloc | apply IsS63.drewN | apply IsS63.drew | apply IsS63.set_1 | apply IsS63.set_2 | refine IsS63.far ?_ NB471_469.out _ | refine IsS63.far ?_ NB471_470.out _) | exact HI471.out)); (case side2 => repeat (first | (with_reducible first | exact HB.out | apply below_alloc | apply pw_below_drewN | apply below_drew1 | refine below_set ?_ (IsS63.ge HI471.out) | refine below_set ?_ GE469.out | refine below_set ?_ GE470.out) | exact HB.out)); rintro e w7 ⟨v474, rfl, ho0, hi, hb, hk⟩; refine ⟨_, rfl, ?_⟩; replace BK469 := a_ (KeepBut.blk hk (g' := gb469) (o := .cells #[.int .i64 0, .slice none 0 0] 26 (0, 0)) (bl_ BK469) NB469_471.out (by simp)); replace BK470 := a_ (KeepBut.blk hk (g' := gb470) (o := .cells #[.int .i64 0, .slice none 0 0] 26 (0, 0)) (bl_ BK470) NB470_471.out (by simp)); have HO475 := a_ (Kd.R_lower ho0 (below_size (by repeat (first | (with_reducible first | exact HB.out | apply below_alloc | apply pw_below_drewN | apply below_drew1 | refine below_set ?_ (IsS63.ge HI471.out) | refine below_set ?_ GE469.out | refine below_set ?_ GE470.out) | exact HB.out)))); replace HB := a_ (hb); replace HI471 := a_ (hi); (try clear hb); (try clear hb2); (try clear hk); (try clear hi); (try clear ho0)) | ((with_reducible refine gate_callee (f := 58) rfl ?_); refine gm_ (some 11) Try.func58 #[.pointer (some ⟨gb471, 0, none⟩), .int .i64 5, .int .i64 8] rfl ?_; (with_reducible refine (spec_l1Cur_sureLadder.calls k gb471 l0 t476 t477 5 8 t478 t479 t482 t483 w _ ?side1 ?side2 A3.out).mono ?_); (case side1 => repeat (first | (with_reducible first | exact HI471.out | apply IsS63.alloc | apply IsS63.drewN | apply IsS63.drew | apply IsS63.set_1 | apply IsS63.set_2 | refine IsS63.far ?_ NB471_469.out _ | refine IsS63.far ?_ NB471_470.out _) | exact HI471.out)); (case side2 => repeat (first | (with_reducible first | exact HB.out | apply below_alloc | apply pw_below_drewN | apply below_drew1 | refine below_set ?_ (IsS63.ge HI471.out) | refine below_set ?_ GE469.out | refine below_set ?_ GE470.out) | exact HB.out)); rintro e w8 ⟨v480, rfl, ho0, hi, hb, hk⟩; refine ⟨_, rfl, ?_⟩; replace BK469 := a_ (KeepBut.blk hk (g' := gb469) (o := .cells #[.int .i64 0, .slice none 0 0] 26 (0, 0)) (bl_ BK469) NB469_471.out (by simp)); replace BK470 := a_ (KeepBut.blk hk (g' := gb470) (o := .cells #[.int .i64 0, .slice none 0 0] 26 (0, 0)) (bl_ BK470) NB470_471.out (by simp)); have HO481 := a_ (Kd.R_lower (Kd.R_new' ho0 (Kd.R_lt (Rl_ HO475.out))) (below_size (by repeat (first | (with_reducible first | exact HB.out | apply below_alloc | apply pw_below_drewN | apply below_drew1 | refine below_set ?_ (IsS63.ge HI471.out) | refine below_set ?_ GE469.out | refine below_set ?_ GE470.out) | exact HB.out)))); replace HO475 := a_ (Kd.R_mono (Kd.R_told (Kd.R_oldK (IsS63.apart (show IsS63 w _ gb471 l0 t476 t477 from by repeat (first | (with_reducible first | exact HI471.out | apply IsS63.alloc | apply IsS63.drewN | apply IsS63.drew | apply IsS63.set_1 | apply IsS63.set_2 | refine IsS63.far ?_ NB471_469.out _ | refine IsS63.far ?_ NB471_470.out _) | exact HI471.out)) (Rl_ HO475.out) (by decide)) hk) (Kd.R_base ho0)) (fun _ h_ => h_.1)); replace HB := a_ (hb); replace HI471 := a_ (hi); (try clear hb); (try clear hb2); (try clear hk); (try clear hi); (try clear ho0); have hnb9 := NB469_470.out; have hnc9 := NB470_469.out; have hnb10 := NB469_471.out; have hnc10 := NB471_469.out; have hcz11_0 := cz_ (.int .i64 0) BK469 0; have hcz11_1 := cz_ (.slice none 0 0) BK469 1; have hfz11_0 := fz_ BK469 0; have hfz11_1 := fz_ BK469 1; obtain ⟨Ao12, co12, eo12⟩ := Kd.R_slice HO475.out; subst eo12; have hnb13 := NB470_471.out; have hnc13 := NB471_470.out; have hcz14_0 := cz_ (.int .i64 0) BK470 0; have hcz14_1 := cz_ (.slice none 0 0) BK470 1; have hfz14_0 := fz_ BK470 0; have hfz14_1 := fz_ BK470 1; obtain ⟨Ao15, co15, eo15⟩ := Kd.R_slice HO481.out; subst eo15))
 refine bodyPost_ret (results_cc rfl _ _ gb469 gb470 26 26 #[.int .i64 t472, .slice Ao12 t473.length co12] #[.int .i64 t478, .slice Ao15 t479.length co15] (0, 0) (0, 0) _ _ rfl (by (with_reducible repeat (first | refine blk_drewN ?_ _ | refine blk_drew ?_ | refine blk_alloc ?_ _)); refine blk_far ?_ NB469_470.out _; (with_reducible repeat (first | refine blk_drewN ?_ _ | refine blk_drew ?_ | refine blk_alloc ?_ _)); refine blk_far ?_ NB469_470.out _; (with_reducible repeat (first | refine blk_drewN ?_ _ | refine blk_drew ?_ | refine blk_alloc ?_ _)); refine blk_put (cs := #[.int .i64 t472, .slice none 0 0]) ?_ 1 _ rfl; (with_reducible repeat (first | refine blk_drewN ?_ _ | refine blk_drew ?_ | refine blk_alloc ?_ _)); refine blk_put (cs := #[.int .i64 0, .slice none 0 0]) ?_ 0 _ rfl; (with_reducible repeat (first | refine blk_drewN ?_ _ | refine blk_drew ?_ | refine blk_alloc ?_ _)); exact BK469.out) Try.underlying26 rfl (by kernel_rfl) rfl (by (with_reducible repeat (first | refine blk_drewN ?_ _ | refine blk_drew ?_ | refine blk_alloc ?_ _)); refine blk_put (cs := #[.int .i64 t478, .slice none 0 0]) ?_ 1 _ rfl; (with_reducible repeat (first | refine blk_drewN ?_ _ | refine blk_drew ?_ | refine blk_alloc ?_ _)); refine blk_put (cs := #[.int .i64 0, .slice none 0 0]) ?_ 0 _ rfl; (with_reducible repeat (first | refine blk_drewN ?_ _ | refine blk_drew ?_ | refine blk_alloc ?_ _)); refine blk_far ?_ NB470_469.out _; (with_reducible repeat (first | refine blk_drewN ?_ _ | refine blk_drew ?_ | refine blk_alloc ?_ _)); refine blk_far ?_ NB470_469.out _; (with_reducible repeat (first | refine blk_drewN ?_ _ | refine blk_drew ?_ | refine blk_alloc ?_ _)); exact BK470.out) Try.underlying26 rfl (by kernel_rfl)) rfl ?_
 exact ⟨_, _, re_, by (with_reducible repeat (first | apply Kd.R_alloc | apply Kd.R_drewN | apply Kd.R_drew)); exact Kd.R_mono (Kd.R_far (p := ⟨gb470, 1, none⟩) (Kd.R_far (p := ⟨gb470, 0, none⟩) (Kd.R_far (p := ⟨gb469, 1, none⟩) (Kd.R_far (p := ⟨gb469, 0, none⟩) (Kd.R_types (Kd.R_types HO475.out BK469.out (by decide)) BK470.out (by decide)) (fun _ hk => hk.1.2) (.int .i64 t472)) (fun _ hk => hk.1.2) (.slice Ao12 t473.length co12)) (fun _ hk => hk.2) (.int .i64 t478)) (fun _ hk => hk.2) (.slice Ao15 t479.length co15)) (fun _ hk => hk.1.1.2), by (with_reducible repeat (first | apply Kd.R_alloc | apply Kd.R_drewN | apply Kd.R_drew)); exact Kd.R_mono (Kd.R_far (p := ⟨gb470, 1, none⟩) (Kd.R_far (p := ⟨gb470, 0, none⟩) (Kd.R_far (p := ⟨gb469, 1, none⟩) (Kd.R_far (p := ⟨gb469, 0, none⟩) (Kd.R_types (Kd.R_types HO481.out BK469.out (by decide)) BK470.out (by decide)) (fun _ hk => hk.1.2) (.int .i64 t472)) (fun _ hk => hk.1.2) (.slice Ao12 t473.length co12)) (fun _ hk => hk.2) (.int .i64 t478)) (fun _ hk => hk.2) (.slice Ao15 t479.length co15)) (fun _ hk => hk.1.1.2), by repeat (first | (with_reducible first | exact HB.out | apply below_alloc | apply pw_below_drewN | apply below_drew1 | refine below_set ?_ (IsS63.ge HI471.out) | refine below_set ?_ GE469.out | refine below_set ?_ GE470.out) | exact HB.out)⟩

/-! ### impl_BesideLadders: function 24 -/
mutual
def impl_BesideLadders.j0 : Nat → Bool → Int → List Int → Int → List Int → Option (Int × List Int × Bool)
 | 0, _, _, _, _, _ => none
 | k + 1, x16, x485000, x485001, x486000, x486001 => if x16 = true then (some (0, ([] : List Int), false)) else ((slices_Clone_int_int.f x485001).bind fun t489 => (impl_BesideLadders.l0 k x486001 (x486001.length : Int) 0 x485000 x485001 (wrap64 (x485000 + x486000)) t489))
def impl_BesideLadders.l0 : Nat → List Int → Int → Int → Int → List Int → Int → List Int → Option (Int × List Int × Bool)
 | 0, _, _, _, _, _, _, _ => none
 | k + 1, x28, x29, x30, x485000, x485001, x493000, x493001 => if x30 < x29 then (if 0 ≤ x30 then (if x30 < (x28.length : Int) then (if x493001.length < 17592186044416 then (impl_BesideLadders.l0 k x28 x29 (wrap64 (x30 + 1)) x485000 x485001 x493000 (x493001 ++ [wrap64 (x485000 + (rd x28 x30))])) else (none)) else (none)) else (none)) else ((impl_checked.f x493000 x493001).bind fun bt497 => (some (bt497.1, bt497.2.1, bt497.2.2)))
end
def impl_BesideLadders.f (k : Nat) (a0_0 : Int) (l0_1 : List Int) (a1_0 : Int) (l1_1 : List Int) : Option (Int × List Int × Bool) := (impl_isLadder.f a0_0 l0_1).bind fun t487 => (if t487 = true then ((impl_isLadder.f a1_0 l1_1).bind fun t488 => (impl_BesideLadders.j0 k (!t488) a0_0 l0_1 a1_0 l1_1)) else (impl_BesideLadders.j0 k true a0_0 l0_1 a1_0 l1_1))
theorem impl_BesideLadders.mono_l : ∀ k, (∀ y0 y1 y2 y3 y4, LeO (impl_BesideLadders.j0 k y0 y1 y2 y3 y4) (impl_BesideLadders.j0 (k + 1) y0 y1 y2 y3 y4)) ∧ (∀ y0 y1 y2 y3 y4 y5 y6, LeO (impl_BesideLadders.l0 k y0 y1 y2 y3 y4 y5 y6) (impl_BesideLadders.l0 (k + 1) y0 y1 y2 y3 y4 y5 y6))
 | 0 => ⟨fun _ _ _ _ _ r h => by simp [impl_BesideLadders.j0] at h, fun _ _ _ _ _ _ _ r h => by simp [impl_BesideLadders.l0] at h⟩
 | k + 1 => by
  obtain ⟨ih0, ih1⟩ := impl_BesideLadders.mono_l k
  refine ⟨?_, ?_⟩
  ·intro y0 y1 y2 y3 y4
   unfold impl_BesideLadders.j0
   repeat' first
   | (with_reducible exact ih1 _ _ _ _ _ _ _)
   | (with_reducible exact LeO.refl _)
   | (with_reducible exact LeO.none _)
   | (with_reducible refine LeO.ite ?_ ?_)
   | (with_reducible refine LeO.bind ?_ (fun _ => ?_))
   | exact LeO.none _
   | refine LeO.ite ?_ ?_
   | refine LeO.bind ?_ (fun _ => ?_)
  ·intro y0 y1 y2 y3 y4 y5 y6
   unfold impl_BesideLadders.l0
   repeat' first
   | (with_reducible exact ih1 _ _ _ _ _ _ _)
   | (with_reducible exact LeO.refl _)
   | (with_reducible exact LeO.none _)
   | (with_reducible refine LeO.ite ?_ ?_)
   | (with_reducible refine LeO.bind ?_ (fun _ => ?_))
   | exact LeO.none _
   | refine LeO.ite ?_ ?_
   | refine LeO.bind ?_ (fun _ => ?_)
theorem impl_BesideLadders.mono : ∀ a0 a1 a2 a3 k, LeO (impl_BesideLadders.f k a0 a1 a2 a3) (impl_BesideLadders.f (k + 1) a0 a1 a2 a3) := by
 intro a0 a1 a2 a3 k
 obtain ⟨ih0, ih1⟩ := impl_BesideLadders.mono_l k
 unfold impl_BesideLadders.f
 repeat' first
  | (with_reducible exact ih0 _ _ _ _ _)
  | (with_reducible exact LeO.refl _)
  | (with_reducible exact LeO.none _)
  | (with_reducible refine LeO.ite ?_ ?_)
  | (with_reducible refine LeO.bind ?_ (fun _ => ?_))
  | exact LeO.none _
  | refine LeO.ite ?_ ?_
  | refine LeO.bind ?_ (fun _ => ?_)
def impl_BesideLadders.T3 : Bool × List (List Nat × List Nat) := (true, [([], []), ([0], [0]), ([], []), ([2], [2]), ([1, 3], [1, 3]), ([], []), ([5], [5]), ([6], [6]), ([4, 7], [4, 7]), ([], []), ([9, 8, 7, 0, 1, 2, 3, 4, 5, 6, 7, 8, 9], [8, 9])])
def impl_BesideLadders.B3 : List Nat := [0, 1, 0, 4, 15, 0, 32, 96, 255, 0, 1023]
theorem impl_BesideLadders.tab3 : rtab .any (opsOf Try.f24 3) = impl_BesideLadders.T3 := by kernel_rfl
theorem impl_BesideLadders.bits3 : waitsOk impl_BesideLadders.T3.2 impl_BesideLadders.B3 = true := by kernel_rfl
set_option maxHeartbeats 8000000 in
set_option maxRecDepth 100000 in
theorem impl_BesideLadders.calls (k : Nat) (a0_0 : Int) (A0_1 : Option Addr) (c0_1 : Nat) (l0_1 : List Int) (a1_0 : Int) (A1_1 : Option Addr) (c1_1 : Nat) (l1_1 : List Int) (r1 : Int) (r2 : List Int) (r3 : Bool) (w : World) (hr0_1 : Kd.C (Kd.int .i64) w A0_1 l0_1.length l0_1) (hc0_1 : l0_1.length ≤ c0_1) (hr1_1 : Kd.C (Kd.int .i64) w A1_1 l1_1.length l1_1) (hc1_1 : l1_1.length ≤ c1_1) (h : impl_BesideLadders.f k a0_0 l0_1 a1_0 l1_1 = some (r1, r2, r3)) :
 Calls Try.prog 24 #[.agg #[.int .i64 a0_0, .slice A0_1 l0_1.length c0_1], .agg #[.int .i64 a1_0, .slice A1_1 l1_1.length c1_1]] w fun e w' => ∃ v1_ : Value, e = .returned (.tuple #[.agg #[.int .i64 r1, v1_], .bool r3]) ∧ Kd.R (Kd.int .i64) 3 w' w.heap.size (fun _ => True) v1_ r2 ∧ Below w.heap.size w w' := by
 have hu26 := Try.underlying26
 have HR0_1 := a_ hr0_1
 have HC0_1 := a_ hc0_1
 clear hr0_1 hc0_1
 have HR1_1 := a_ hr1_1
 have HC1_1 := a_ hc1_1
 clear hr1_1 hc1_1
 have HB := a_ (Below.refl w.heap.size w)
 have H : ((impl_isLadder.f a0_0 l0_1).bind fun t487 => (if t487 = true then ((impl_isLadder.f a1_0 l1_1).bind fun t488 => (impl_BesideLadders.j0 k (!t488) a0_0 l0_1 a1_0 l1_1)) else (impl_BesideLadders.j0 k true a0_0 l0_1 a1_0 l1_1))) = some (r1, r2, r3) := h
 clear h
 have HC3 := a_ H
 clear H
 go_enter Try.func24, Try.ntmps24
 go_upto_region 1 with (first | ((with_reducible refine gate_dst (N := 2) rfl ?_); refine bx_ #[.int .i64 a0_0, .slice A0_1 l0_1.length c0_1] 26 ?_ 2; intro gb484 hg w4 hbox hb; have BK484 := a_ (hbox); have GW484 := gw_ HB hg; have GE484 := gw_ HB hg; replace HB := Bs_ HB hb; clear hb hbox hg) | ((with_reducible refine gate_dst (N := 3) rfl ?_); refine bx_ #[.int .i64 a1_0, .slice A1_1 l1_1.length c1_1] 26 ?_ 3; intro gb485 hg w5 hbox hb; have BK485 := a_ (hbox); have GW485 := gw_ HB hg; have GE485 := gw_ HB hg; replace HB := Bs_ HB hb; have NB484_485 := nbl_ BK484 hg; have NB485_484 := nbg_ BK484 hg; replace BK484 := blkB_ BK484 hb; clear hb hbox hg) | ((with_reducible refine gate_dst (N := 4) rfl ?_); refine bx_ #[.int .i64 0, .slice none 0 0] 26 ?_ 4; intro gb486 hg w6 hbox hb; have BK486 := a_ (hbox); have GW486 := gw_ HB hg; have GE486 := gw_ HB hg; replace HB := Bs_ HB hb; have NB484_486 := nbl_ BK484 hg; have NB486_484 := nbg_ BK484 hg; replace BK484 := blkB_ BK484 hb; have NB485_486 := nbl_ BK485 hg; have NB486_485 := nbg_ BK485 hg; replace BK485 := blkB_ BK485 hb; clear hb hbox hg))
 (try simp only [Act.put, List.setIfInBounds_toArray, List.set_cons_zero, List.set_cons_succ])
 go_cut [16] (fun v16 wc => ∃ (kq : Nat) (x16_2 : Bool), v16 = .bool x16_2 ∧ Aside0 (impl_BesideLadders.j0 kq x16_2 a0_0 l0_1 a1_0 l1_1 = some (r1, r2, r3)) ∧ Aside0 (kq ≤ k) ∧ Aside0 (wc.heap[gb484]? = some (.cells #[.int .i64 a0_0, (.slice A0_1 l0_1.length c0_1)] 26 (0, 0))) ∧ Aside0 (wc.heap[gb485]? = some (.cells #[.int .i64 a1_0, (.slice A1_1 l1_1.length c1_1)] 26 (0, 0))) ∧ Aside0 (wc.heap[gb486]? = some (.cells #[.int .i64 0, (.slice none 0 0)] 26 (0, 0))) ∧ Aside0 (Below w.heap.size w wc))
 case first =>
  have H := HC3.out
  clear HC3
  obtain ⟨t487, A7, H⟩ := ob_ H
  (try dsimp only at H)
  by_cases c8 : t487 = true
  rotate_left
  ·replace c8 := Bool.eq_false_iff.mpr c8
   subst c8
   rw [if_neg (show ¬ (false = true) by decide)] at H
   have H' := a_ H
   clear H
   have hnb17 := NB484_485.out
   have hnc17 := NB485_484.out
   have hnb18 := NB484_486.out
   have hnc18 := NB486_484.out
   have hcz19_0 := cz_ (.int .i64 a0_0) BK484 0
   have hcz19_1 := cz_ (.slice A0_1 l0_1.length c0_1) BK484 1
   have hfz19_0 := fz_ BK484 0
   have hfz19_1 := fz_ BK484 1
   go_wp2_with (first | ((with_reducible refine gate_callee (f := 40) rfl ?_); refine gm_ (some 10) Try.func40 #[.agg #[.int .i64 a0_0, .slice A0_1 l0_1.length c0_1]] rfl ?_; (with_reducible refine (impl_isLadder.calls a0_0 _ _ l0_1 false _ ?side1 ?side2 A7.out).mono ?_); (case side1 => exact Cl_ (Kd.C_below HR0_1.out HB.out)); (case side2 => exact HC0_1.out); rintro e w20 ⟨rfl, hb⟩; refine ⟨_, rfl, ?_⟩; replace BK484 := blkB_ BK484 hb; replace BK485 := blkB_ BK485 hb; replace BK486 := blkB_ BK486 hb; replace HB := Bs_ HB hb; (try clear hb); (try clear hb2); (try clear hk); (try clear hi)))
   go_meet
   case rel => exact ⟨_, (true), rs_, H', ⟨by first | omega | exact Nat.le_refl _⟩, ⟨bl_ BK484⟩, ⟨bl_ BK485⟩, ⟨bl_ BK486⟩, ⟨Bl_ HB⟩⟩
  subst c8
  rw [if_pos rfl] at H
  obtain ⟨t488, A9, H⟩ := ob_ H
  (try dsimp only at H)
  have H' := a_ H
  clear H
  have hnb10 := NB484_485.out
  have hnc10 := NB485_484.out
  have hnb11 := NB484_486.out
  have hnc11 := NB486_484.out
  have hcz12_0 := cz_ (.int .i64 a0_0) BK484 0
  have hcz12_1 := cz_ (.slice A0_1 l0_1.length c0_1) BK484 1
  have hfz12_0 := fz_ BK484 0
  have hfz12_1 := fz_ BK484 1
  go_wp2_with (first | ((with_reducible refine gate_callee (f := 40) rfl ?_); refine gm_ (some 10) Try.func40 #[.agg #[.int .i64 a0_0, .slice A0_1 l0_1.length c0_1]] rfl ?_; (with_reducible refine (impl_isLadder.calls a0_0 _ _ l0_1 true _ ?side1 ?side2 A7.out).mono ?_); (case side1 => exact Cl_ (Kd.C_below HR0_1.out HB.out)); (case side2 => exact HC0_1.out); rintro e w13 ⟨rfl, hb⟩; refine ⟨_, rfl, ?_⟩; replace BK484 := blkB_ BK484 hb; replace BK485 := blkB_ BK485 hb; replace BK486 := blkB_ BK486 hb; replace HB := Bs_ HB hb; (try clear hb); (try clear hb2); (try clear hk); (try clear hi); have hnb14 := NB485_486.out; have hnc14 := NB486_485.out; have hcz15_0 := cz_ (.int .i64 a1_0) BK485 0; have hcz15_1 := cz_ (.slice A1_1 l1_1.length c1_1) BK485 1; have hfz15_0 := fz_ BK485 0; have hfz15_1 := fz_ BK485 1) | (go_at_call 40; (with_reducible refine (impl_isLadder.calls a1_0 _ _ l1_1 t488 _ ?side1 ?side2 A9.out).mono ?_); (case side1 => exact Cl_ (Kd.C_below HR1_1.out HB.out)); (case side2 => exact HC1_1.out); rintro e w16 ⟨rfl, hb⟩; replace BK484 := blkB_ BK484 hb; replace BK485 := blkB_ BK485 hb; replace BK486 := blkB_ BK486 hb; replace HB := Bs_ HB hb; (try clear hb); (try clear hb2); (try clear hk); (try clear hi)))
  go_meet
  case rel => exact ⟨_, (!t488), rs_, H', ⟨by first | omega | exact Nat.le_refl _⟩, ⟨bl_ BK484⟩, ⟨bl_ BK485⟩, ⟨bl_ BK486⟩, ⟨Bl_ HB⟩⟩
 case rest =>
  as_aux_lemma =>
  clear HC3
  try clear c1
  try clear c2
  try clear p2
  try clear c4
  try clear c8
  try clear c10
  try clear c11
  try clear c14
  try clear c17
  try clear c18
  try clear hcz12_0
  try clear hcz12_1
  try clear hcz15_0
  try clear hcz15_1
  try clear hcz19_0
  try clear hcz19_1
  try clear hfz12_0
  try clear hfz12_1
  try clear hfz15_0
  try clear hfz15_1
  try clear hfz19_0
  try clear hfz19_1
  obtain ⟨kq, x16_2, rfl, HA, HJ2, BK484, BK485, BK486, HB⟩ := hcut
  cases kq with
  | zero => exact absurd HA.out (by simp [impl_BesideLadders.j0])
  | succ kj2 =>
   have H := HA.out
   clear HA
   simp only [impl_BesideLadders.j0] at H
   by_cases c21 : x16_2 = true
   ·subst c21
    rw [if_pos rfl] at H
    simp only [Option.some.injEq, Prod.mk.injEq] at H
    obtain ⟨rfl, rfl, rfl⟩ := H
    have hnb22 := NB486_484.out
    have hnc22 := NB484_486.out
    have hnb23 := NB486_485.out
    have hnc23 := NB485_486.out
    have hcz24_0 : wc.cell? ⟨gb486, 0, none⟩ = some (.int .i64 0) := (blk_cell BK486.out 0).trans rfl
    have hcz24_1 : wc.cell? ⟨gb486, 1, none⟩ = some (.slice none 0 0) := (blk_cell BK486.out 1).trans rfl
    have hfz24_0 := fz_ BK486 0
    have hfz24_1 := fz_ BK486 1
    go_wp2
    refine bodyPost_ret (results_ct rfl _ _ gb486 26 #[.int .i64 0, .slice none 0 0] (0, 0) _ rfl (by (with_reducible repeat (first | refine blk_drewN ?_ _ | refine blk_drew ?_ | refine blk_alloc ?_ _)); refine blk_put (cs := #[.int .i64 0, .slice none 0 0]) ?_ 1 _ rfl; (with_reducible repeat (first | refine blk_drewN ?_ _ | refine blk_drew ?_ | refine blk_alloc ?_ _)); refine blk_put (cs := #[.int .i64 0, .slice none 0 0]) ?_ 0 _ rfl; (with_reducible repeat (first | refine blk_drewN ?_ _ | refine blk_drew ?_ | refine blk_alloc ?_ _)); exact BK486.out) Try.underlying26 rfl (by kernel_rfl)) rfl ?_
    exact ⟨_, re_, by first | exact Kd.R_nil _ _ _ _ _ | exact Kd.N_nil _ _ _ _ _ | exact Kd.V_nil _ _ _ _ _ | exact Kd.Q_nil _ _ _ _ _ | exact Kd.S_nil _ _ _ _ _, Bl_ HB⟩
   replace c21 := Bool.eq_false_iff.mpr c21
   subst c21
   rw [if_neg (show ¬ (false = true) by decide)] at H
   obtain ⟨t489, A25, H⟩ := ob_ H
   (try dsimp only at H)
   have H' := a_ H
   clear H
   try go_wp2
   replace BK484 := a_ (blk_drew BK484.out)
   replace BK485 := a_ (blk_drew BK485.out)
   replace BK486 := a_ (blk_drew BK486.out)
   replace HB := a_ (below_drew1 HB.out)
   refine start_ (n := 11) (S := fun w' => w'.cell? ⟨gb484, 0, none⟩ = some (.int .i64 a0_0) ∧ w'.cell? ⟨gb484, 1, none⟩ = some (.slice A0_1 l0_1.length c0_1) ∧ w'.cell? ⟨gb485, 0, none⟩ = some (.int .i64 a1_0) ∧ w'.cell? ⟨gb485, 1, none⟩ = some (.slice A1_1 l1_1.length c1_1)) (ds := []) (fl_ 11 0) (by kernel_rfl) rfl rfl ⟨(blk_cell BK484.out 0).trans rfl, (blk_cell BK484.out 1).trans rfl, (blk_cell BK485.out 0).trans rfl, (blk_cell BK485.out 1).trans rfl⟩ (fun hHeld => ?_); refine with_tabW impl_BesideLadders.tab3 impl_BesideLadders.bits3 (fun HT_ HW_ => ?_)
   generalize wc.drew = w26 at BK484 BK485 BK486 HB hHeld ⊢
   refine pure_ (i := 0) (N := some 18) (v := ?_) (a' := ?_) (fl_ 11 1) rfl rfl (any_of HT_.out (by kernel_rfl)) (fun _ _ _ h => h) (Or.inl ⟨by rfl, ?_⟩) ?_ ?_
   rotate_left
   ·intro w'
    go_simp
    with_reducible rfl
   rotate_left
   ·simp only [Act.put, List.setIfInBounds_toArray, List.set_cons_zero, List.set_cons_succ, i64_w, i32_w]
    rfl
   refine pure_ (i := 2) (N := some 20) (v := ?_) (a' := ?_) #[true, false, true, false, false, false, false, false, false, false, false] rfl rfl (any_of HT_.out (by kernel_rfl)) (fun _ _ _ h => h) (Or.inl ⟨by rfl, ?_⟩) ?_ ?_
   rotate_left
   ·intro w'
    go_simp
    with_reducible rfl
   rotate_left
   ·simp only [Act.put, List.setIfInBounds_toArray, List.set_cons_zero, List.set_cons_succ, i64_w, i32_w]
    rfl
   refine pure_ (i := 5) (N := some 23) (v := ?_) (a' := ?_) #[true, false, true, false, false, true, false, false, false, false, false] rfl rfl (any_of HT_.out (by kernel_rfl)) (fun _ _ _ h => h) (Or.inl ⟨by rfl, ?_⟩) ?_ ?_
   rotate_left
   ·intro w'
    go_simp
    with_reducible rfl
   rotate_left
   ·simp only [Act.put, List.setIfInBounds_toArray, List.set_cons_zero, List.set_cons_succ, i64_w, i32_w]
    rfl
   refine take_ (i := 1) (N := some 19) (v := ?_) (a' := ?_) #[true, true, true, false, false, true, false, false, false, false, false] rfl rfl (take_ofW HT_.out HW_.out (by kernel_rfl)) (fun _ _ _ h => h) (Or.inl ⟨by rfl, ?_⟩) hHeld ?_ ?_
   rotate_left
   ·rintro w' ⟨s0, s1, s2, s3⟩
    go_simp
    with_reducible rfl
   rotate_left
   ·simp only [Act.put, List.setIfInBounds_toArray, List.set_cons_zero, List.set_cons_succ, i64_w, i32_w]
    rfl
   refine take_ (i := 3) (N := some 21) (v := ?_) (a' := ?_) #[true, true, true, true, false, true, false, false, false, false, false] rfl rfl (take_ofW HT_.out HW_.out (by kernel_rfl)) (fun _ _ _ h => h) (Or.inl ⟨by rfl, ?_⟩) hHeld ?_ ?_
   rotate_left
   ·rintro w' ⟨s0, s1, s2, s3⟩
    go_simp
    with_reducible rfl
   rotate_left
   ·simp only [Act.put, List.setIfInBounds_toArray, List.set_cons_zero, List.set_cons_succ, i64_w, i32_w]
    rfl
   refine pure_ (i := 4) (N := some 22) (v := ?_) (a' := ?_) (fl_ 11 6) rfl rfl (any_of HT_.out (by kernel_rfl)) (fun _ _ _ h => h) (Or.inl ⟨by rfl, ?_⟩) ?_ ?_
   rotate_left
   ·intro w'
    go_simp
    with_reducible rfl
   rotate_left
   ·simp only [Act.put, List.setIfInBounds_toArray, List.set_cons_zero, List.set_cons_succ, i64_w, i32_w]
    rfl
   refine take_ (i := 6) (N := some 24) (v := ?_) (a' := ?_) (fl_ 11 7) rfl rfl (take_ofW HT_.out HW_.out (by kernel_rfl)) (fun _ _ _ h => h) (Or.inl ⟨by rfl, ?_⟩) hHeld ?_ ?_
   rotate_left
   ·rintro w' ⟨s0, s1, s2, s3⟩
    go_simp
    with_reducible rfl
   rotate_left
   ·simp only [Act.put, List.setIfInBounds_toArray, List.set_cons_zero, List.set_cons_succ, i64_w, i32_w]
    rfl
   refine join_ (σ := Value × Nat) 1 (fl_ 11 10) (fun s_ => [(25, s_.1), (6, .pointer (some ⟨s_.2, 0, none⟩)), (26, .agg #[.int .i64 (wrap64 (a0_0 + a1_0)), s_.1])]) (fun s_ w' => (w'.cell? ⟨gb484, 0, none⟩ = some (.int .i64 a0_0) ∧ w'.cell? ⟨gb484, 1, none⟩ = some (.slice A0_1 l0_1.length c0_1) ∧ w'.cell? ⟨gb485, 0, none⟩ = some (.int .i64 a1_0) ∧ w'.cell? ⟨gb485, 1, none⟩ = some (.slice A1_1 l1_1.length c1_1)) ∧ (Kd.R (Kd.int .i64) 3 w' w.heap.size (fun _ => True) s_.1 t489) ∧ (w'.heap[gb484]? = some (.cells #[.int .i64 a0_0, .slice A0_1 l0_1.length c0_1] 26 (0, 0))) ∧ (w'.heap[gb485]? = some (.cells #[.int .i64 a1_0, .slice A1_1 l1_1.length c1_1] 26 (0, 0))) ∧ (w'.heap[gb486]? = some (.cells #[.int .i64 0, .slice none 0 0] 26 (0, 0))) ∧ (w'.heap[s_.2]? = some (.cells #[.int .i64 0, .slice none 0 0] 26 (0, 0))) ∧ (w.heap.size ≤ s_.2) ∧ (w.heap.size ≤ s_.2) ∧ (gb484 ≠ s_.2) ∧ (s_.2 ≠ gb484) ∧ (gb485 ≠ s_.2) ∧ (s_.2 ≠ gb485) ∧ (gb486 ≠ s_.2) ∧ (s_.2 ≠ gb486) ∧ (Below w.heap.size w w')) ?_ ?_
   rotate_left
   ·intro hCont
    refine two_ (i := 7) (j := 9) (Ni := some 25) (Nj := some 6) (fl_ 11 8) #[true, true, true, true, true, true, true, false, false, true, false] rfl rfl rfl rfl (two_of HT_.out (by kernel_rfl)) (by decide) (by decide) (fun K hK => ?_) (fun K hK => ?_)
    ·skip
     refine gs_ Try.func41 (by kernel_rfl) rfl #[.slice A0_1 l0_1.length c0_1] (by rfl) rfl rfl ?_
     with_reducible refine (slices_Clone_int_int.calls _ _ l0_1 t489 _ ?side1 ?side2 A25.out).mono ?_
     (case side1 => exact Cl_ (Kd.C_below HR0_1.out HB.out))
     (case side2 => exact HC0_1.out)
     rintro e w27 ⟨v490, rfl, ho0, hb⟩
     refine ⟨_, rfl, ?_⟩
     have HO491 := a_ (Kd.R_lower ho0 (below_size (Bl_ HB)))
     replace BK484 := blkB_ BK484 hb
     replace BK485 := blkB_ BK485 hb
     replace BK486 := blkB_ BK486 hb
     replace HB := Bs_ HB hb
     (try clear hb); (try clear hb2); (try clear hk); (try clear hi); (try clear ho0)
     obtain ⟨Ao28, co28, eo28⟩ := Kd.R_slice HO491.out
     (first | subst eo28 | (injection eo28 with f1_ f2_ f3_; have f4_ := f1_.symm; have f5_ := f3_.symm; clear f1_ f2_ f3_; subst f4_; subst f5_))
     refine hK.out _ _ ⟨(blk_cell BK484.out 0).trans rfl, (blk_cell BK484.out 1).trans rfl, (blk_cell BK485.out 0).trans rfl, (blk_cell BK485.out 1).trans rfl⟩ (fun hHeld => ?_)
     clear hK K
     refine norm_ (a' := ?_) ?_ ?_
     rotate_left
     ·show Act.put _ (some 25) _ = _
      simp only [Act.put, List.setIfInBounds_toArray, List.set_cons_zero, List.set_cons_succ, i64_w, i32_w]
      rfl
     refine pure_ (i := 8) (N := some 26) (v := ?_) (a' := ?_) (fl_ 11 9) rfl rfl (any_of HT_.out (by kernel_rfl)) (fun _ _ _ h => h) (Or.inl ⟨by rfl, ?_⟩) ?_ ?_
     rotate_left
     ·intro w'
      go_simp
      with_reducible rfl
     rotate_left
     ·simp only [Act.put, List.setIfInBounds_toArray, List.set_cons_zero, List.set_cons_succ, i64_w, i32_w]
      rfl
     refine one_ (i := 9) (N := some 6) (fl_ 11 10) rfl rfl (one_of HT_.out (by kernel_rfl)) (by decide) (fun K hK => ?_)
     refine box_step ?hg (N := 6) ?hd (cs := #[.int .i64 0, .slice none 0 0]) (t := 26) ?hr ?_; (case hd => rfl); (case hg => rfl); (case hr => first | (go_simp; done) | (go_simp; rfl))
     intro gb492 hg w29 hbox hb
     replace HO491 := a_ (Kd.R_below (Rl_ HO491.out) hb)
     have BK492 := a_ (hbox)
     have GW492 := gw_ HB hg
     have GE492 := gw_ HB hg
     replace HB := Bs_ HB hb
     have NB484_492 := nbl_ BK484 hg
     have NB492_484 := nbg_ BK484 hg
     replace BK484 := blkB_ BK484 hb
     have NB485_492 := nbl_ BK485 hg
     have NB492_485 := nbg_ BK485 hg
     replace BK485 := blkB_ BK485 hb
     have NB486_492 := nbl_ BK486 hg
     have NB492_486 := nbg_ BK486 hg
     replace BK486 := blkB_ BK486 hb
     clear hb hbox hg
     refine hK.out _ _ ⟨(blk_cell BK484.out 0).trans rfl, (blk_cell BK484.out 1).trans rfl, (blk_cell BK485.out 0).trans rfl, (blk_cell BK485.out 1).trans rfl⟩ (fun hHeld => ?_)
     clear hK K
     refine norm_ (a' := ?_) ?_ ?_
     rotate_left
     ·show Act.put _ (some 6) _ = _
      simp only [Act.put, List.setIfInBounds_toArray, List.set_cons_zero, List.set_cons_succ, i64_w, i32_w]
      rfl
     exact norm_ (by simp only [putAll, Act.put, List.setIfInBounds_toArray, List.set_cons_zero, List.set_cons_succ]) (hCont (.slice Ao28 t489.length co28, gb492) _ ⟨hHeld, (Rl_ HO491.out), (bl_ BK484), (bl_ BK485), (bl_ BK486), (bl_ BK492), GW492.out, GE492.out, NB484_492.out, NB492_484.out, NB485_492.out, NB492_485.out, NB486_492.out, NB492_486.out, (Bl_ HB)⟩)
    ·skip
     refine box_step ?hg (N := 6) ?hd (cs := #[.int .i64 0, .slice none 0 0]) (t := 26) ?hr ?_; (case hd => rfl); (case hg => rfl); (case hr => first | (go_simp; done) | (go_simp; rfl))
     intro gb492 hg w27 hbox hb
     have BK492 := a_ (hbox)
     have GW492 := gw_ HB hg
     have GE492 := gw_ HB hg
     replace HB := Bs_ HB hb
     have NB484_492 := nbl_ BK484 hg
     have NB492_484 := nbg_ BK484 hg
     replace BK484 := blkB_ BK484 hb
     have NB485_492 := nbl_ BK485 hg
     have NB492_485 := nbg_ BK485 hg
     replace BK485 := blkB_ BK485 hb
     have NB486_492 := nbl_ BK486 hg
     have NB492_486 := nbg_ BK486 hg
     replace BK486 := blkB_ BK486 hb
     clear hb hbox hg
     refine hK.out _ _ ⟨(blk_cell BK484.out 0).trans rfl, (blk_cell BK484.out 1).trans rfl, (blk_cell BK485.out 0).trans rfl, (blk_cell BK485.out 1).trans rfl⟩ (fun hHeld => ?_)
     clear hK K
     refine norm_ (a' := ?_) ?_ ?_
     rotate_left
     ·show Act.put _ (some 6) _ = _
      simp only [Act.put, List.setIfInBounds_toArray, List.set_cons_zero, List.set_cons_succ, i64_w, i32_w]
      rfl
     refine one_ (i := 7) (N := some 25) #[true, true, true, true, true, true, true, true, false, true, false] rfl rfl (one_of HT_.out (by kernel_rfl)) (by decide) (fun K hK => ?_)
     refine gs_ Try.func41 (by kernel_rfl) rfl #[.slice A0_1 l0_1.length c0_1] (by rfl) rfl rfl ?_
     with_reducible refine (slices_Clone_int_int.calls _ _ l0_1 t489 _ ?side1 ?side2 A25.out).mono ?_
     (case side1 => exact Cl_ (Kd.C_below HR0_1.out HB.out))
     (case side2 => exact HC0_1.out)
     rintro e w28 ⟨v490, rfl, ho0, hb⟩
     refine ⟨_, rfl, ?_⟩
     have HO491 := a_ (Kd.R_lower ho0 (below_size (Bl_ HB)))
     replace BK484 := blkB_ BK484 hb
     replace BK485 := blkB_ BK485 hb
     replace BK486 := blkB_ BK486 hb
     replace BK492 := blkB_ BK492 hb
     replace HB := Bs_ HB hb
     (try clear hb); (try clear hb2); (try clear hk); (try clear hi); (try clear ho0)
     obtain ⟨Ao29, co29, eo29⟩ := Kd.R_slice HO491.out
     (first | subst eo29 | (injection eo29 with f1_ f2_ f3_; have f4_ := f1_.symm; have f5_ := f3_.symm; clear f1_ f2_ f3_; subst f4_; subst f5_))
     refine hK.out _ _ ⟨(blk_cell BK484.out 0).trans rfl, (blk_cell BK484.out 1).trans rfl, (blk_cell BK485.out 0).trans rfl, (blk_cell BK485.out 1).trans rfl⟩ (fun hHeld => ?_)
     clear hK K
     refine norm_ (a' := ?_) ?_ ?_
     rotate_left
     ·show Act.put _ (some 25) _ = _
      simp only [Act.put, List.setIfInBounds_toArray, List.set_cons_zero, List.set_cons_succ, i64_w, i32_w]
      rfl
     refine pure_ (i := 8) (N := some 26) (v := ?_) (a' := ?_) (fl_ 11 10) rfl rfl (any_of HT_.out (by kernel_rfl)) (fun _ _ _ h => h) (Or.inl ⟨by rfl, ?_⟩) ?_ ?_
     rotate_left
     ·intro w'
      go_simp
      with_reducible rfl
     rotate_left
     ·simp only [Act.put, List.setIfInBounds_toArray, List.set_cons_zero, List.set_cons_succ, i64_w, i32_w]
      rfl
     exact norm_ (by simp only [putAll, Act.put, List.setIfInBounds_toArray, List.set_cons_zero, List.set_cons_succ]) (hCont (.slice Ao29 t489.length co29, gb492) _ ⟨hHeld, (Rl_ HO491.out), (bl_ BK484), (bl_ BK485), (bl_ BK486), (bl_ BK492), GW492.out, GE492.out, NB484_492.out, NB492_484.out, NB485_492.out, NB492_485.out, NB486_492.out, NB492_486.out, (Bl_ HB)⟩)
   rintro ⟨v490, gb492⟩ w30 ⟨hS_, h0_, h1_, h2_, h3_, h4_, h5_, h6_, h7_, h8_, h9_, h10_, h11_, h12_, h13_⟩
   have HO491 : Aside0 (Kd.R (Kd.int .i64) 3 w30 w.heap.size (fun _ => True) v490 t489) := ⟨h0_⟩
   replace BK484 : Aside0 (w30.heap[gb484]? = some (.cells #[.int .i64 a0_0, .slice A0_1 l0_1.length c0_1] 26 (0, 0))) := ⟨h1_⟩
   replace BK485 : Aside0 (w30.heap[gb485]? = some (.cells #[.int .i64 a1_0, .slice A1_1 l1_1.length c1_1] 26 (0, 0))) := ⟨h2_⟩
   replace BK486 : Aside0 (w30.heap[gb486]? = some (.cells #[.int .i64 0, .slice none 0 0] 26 (0, 0))) := ⟨h3_⟩
   have BK492 : Aside0 (w30.heap[gb492]? = some (.cells #[.int .i64 0, .slice none 0 0] 26 (0, 0))) := ⟨h4_⟩
   have GW492 : Aside0 (w.heap.size ≤ gb492) := ⟨h5_⟩
   have GE492 : Aside0 (w.heap.size ≤ gb492) := ⟨h6_⟩
   have NB484_492 : Aside0 (gb484 ≠ gb492) := ⟨h7_⟩
   have NB492_484 : Aside0 (gb492 ≠ gb484) := ⟨h8_⟩
   have NB485_492 : Aside0 (gb485 ≠ gb492) := ⟨h9_⟩
   have NB492_485 : Aside0 (gb492 ≠ gb485) := ⟨h10_⟩
   have NB486_492 : Aside0 (gb486 ≠ gb492) := ⟨h11_⟩
   have NB492_486 : Aside0 (gb492 ≠ gb486) := ⟨h12_⟩
   replace HB : Aside0 (Below w.heap.size w w30) := ⟨h13_⟩
   clear h0_ h1_ h2_ h3_ h4_ h5_ h6_ h7_ h8_ h9_ h10_ h11_ h12_ h13_
   have hHeld : w30.cell? ⟨gb484, 0, none⟩ = some (.int .i64 a0_0) ∧ w30.cell? ⟨gb484, 1, none⟩ = some (.slice A0_1 l0_1.length c0_1) ∧ w30.cell? ⟨gb485, 0, none⟩ = some (.int .i64 a1_0) ∧ w30.cell? ⟨gb485, 1, none⟩ = some (.slice A1_1 l1_1.length c1_1) := hS_
   obtain ⟨Ao31, co31, eo31⟩ := Kd.R_slice HO491.out
   (first | subst eo31 | (injection eo31 with f1_ f2_ f3_; have f4_ := f1_.symm; have f5_ := f3_.symm; clear f1_ f2_ f3_; subst f4_; subst f5_))
   refine norm_ (a' := ?_) ?_ ?_
   rotate_left
   ·simp only [putAll, Act.put, List.setIfInBounds_toArray, List.set_cons_zero, List.set_cons_succ]
    rfl
   refine one_ (i := 10) (N := none) (fl_ 11 11) rfl rfl (one_of HT_.out (by kernel_rfl)) (by decide) (fun K hK => ?_)
   have hs32 : w30.cell? ⟨gb492, 0, none⟩ = some (.int .i64 0) := (blk_cell BK492.out 0).trans rfl
   have hfs32 := fz_ BK492 0
   have hns32_0 := NB484_492.out
   have hns32_1 := NB485_492.out
   have hns32_2 := NB486_492.out
   have hms32_0 := NB492_484.out
   have hms32_1 := NB492_485.out
   have hms32_2 := NB492_486.out
   have hs33 : w30.cell? ⟨gb492, 1, none⟩ = some (.slice none 0 0) := (blk_cell BK492.out 1).trans rfl
   have hfs33 := fz_ BK492 1
   have hns33_0 := NB484_492.out
   have hns33_1 := NB485_492.out
   have hns33_2 := NB486_492.out
   have hms33_0 := NB492_484.out
   have hms33_1 := NB492_485.out
   have hms33_2 := NB492_486.out
   refine skip_ (w1 := ?_) (by rfl) rfl ?_ ?_
   rotate_left
   ·go_simp
    rfl
   refine hK.out _ _ ⟨((cell_far (p := ⟨gb492, _, none⟩) NB484_492.out _).trans (((cell_far (p := ⟨gb492, _, none⟩) NB484_492.out _).trans (hHeld.1)))), ((cell_far (p := ⟨gb492, _, none⟩) NB484_492.out _).trans (((cell_far (p := ⟨gb492, _, none⟩) NB484_492.out _).trans (hHeld.2.1)))), ((cell_far (p := ⟨gb492, _, none⟩) NB485_492.out _).trans (((cell_far (p := ⟨gb492, _, none⟩) NB485_492.out _).trans (hHeld.2.2.1)))), ((cell_far (p := ⟨gb492, _, none⟩) NB485_492.out _).trans (((cell_far (p := ⟨gb492, _, none⟩) NB485_492.out _).trans (hHeld.2.2.2))))⟩ (fun hHeld => ?_)
   clear hK K
   refine done_ (done_of HT_.out (by kernel_rfl)) ?_
   have hnb34 := NB485_484.out
   have hnc34 := NB484_485.out
   have hnb35 := NB485_486.out
   have hnc35 := NB486_485.out
   have hnb36 := NB485_492.out
   have hnc36 := NB492_485.out
   have hcz37_0 := cz_ (.int .i64 a1_0) BK485 0
   have hcz37_1 := cz_ (.slice A1_1 l1_1.length c1_1) BK485 1
   have hfz37_0 := fz_ BK485 0
   have hfz37_1 := fz_ BK485 1
   try go_wp2
   go_loopg [30] kj2 (fun kq v30 w' => ∃ (x30_2 : Int) (x493001_2 : List Int) (u493001 : Value), v30 = .int .i64 x30_2 ∧ Aside0 (impl_BesideLadders.l0 kq l1_1 (l1_1.length : Int) x30_2 a0_0 l0_1 (wrap64 (a0_0 + a1_0)) x493001_2 = some (r1, r2, r3)) ∧ Aside0 (kq ≤ kj2) ∧ Aside0 (Kd.R (Kd.int .i64) 3 w' w.heap.size (fun _ => True) u493001 x493001_2) ∧ Aside0 (w'.heap[gb484]? = some (.cells #[.int .i64 a0_0, (.slice A0_1 l0_1.length c0_1)] 26 (0, 0))) ∧ Aside0 (w'.heap[gb485]? = some (.cells #[.int .i64 a1_0, (.slice A1_1 l1_1.length c1_1)] 26 (0, 0))) ∧ Aside0 (w'.heap[gb486]? = some (.cells #[.int .i64 0, (.slice none 0 0)] 26 (0, 0))) ∧ Aside0 (w'.heap[gb492]? = some (.cells #[.int .i64 (wrap64 (a0_0 + a1_0)), u493001] 26 (0, 0))) ∧ Aside0 (Below w.heap.size w w'))
   case atStart => exact ⟨(0), (t489), (.slice Ao31 t489.length co31), rs_, H', ⟨Nat.le_refl _⟩, ⟨Rl_ (Kd.R_mono (Kd.R_far (p := ⟨gb492, 1, none⟩) (Kd.R_far (p := ⟨gb492, 0, none⟩) (Kd.R_types HO491.out BK492.out (by decide)) (fun _ hk => hk.2) (.int .i64 (wrap64 (a0_0 + a1_0)))) (fun _ hk => hk.2) (.slice Ao31 t489.length co31)) (fun _ hk => trivial))⟩, ⟨by (with_reducible repeat (first | refine blk_drewN ?_ _ | refine blk_drew ?_ | refine blk_alloc ?_ _)); refine blk_far ?_ NB484_492.out _; (with_reducible repeat (first | refine blk_drewN ?_ _ | refine blk_drew ?_ | refine blk_alloc ?_ _)); refine blk_far ?_ NB484_492.out _; (with_reducible repeat (first | refine blk_drewN ?_ _ | refine blk_drew ?_ | refine blk_alloc ?_ _)); exact BK484.out⟩, ⟨by (with_reducible repeat (first | refine blk_drewN ?_ _ | refine blk_drew ?_ | refine blk_alloc ?_ _)); refine blk_far ?_ NB485_492.out _; (with_reducible repeat (first | refine blk_drewN ?_ _ | refine blk_drew ?_ | refine blk_alloc ?_ _)); refine blk_far ?_ NB485_492.out _; (with_reducible repeat (first | refine blk_drewN ?_ _ | refine blk_drew ?_ | refine blk_alloc ?_ _)); exact BK485.out⟩, ⟨by (with_reducible repeat (first | refine blk_drewN ?_ _ | refine blk_drew ?_ | refine blk_alloc ?_ _)); refine blk_far ?_ NB486_492.out _; (with_reducible repeat (first | refine blk_drewN ?_ _ | refine blk_drew ?_ | refine blk_alloc ?_ _)); refine blk_far ?_ NB486_492.out _; (with_reducible repeat (first | refine blk_drewN ?_ _ | refine blk_drew ?_ | refine blk_alloc ?_ _)); exact BK486.out⟩, ⟨by (with_reducible repeat (first | refine blk_drewN ?_ _ | refine blk_drew ?_ | refine blk_alloc ?_ _)); refine blk_put (cs := #[.int .i64 (wrap64 (a0_0 + a1_0)), .slice none 0 0]) ?_ 1 _ rfl; (with_reducible repeat (first | refine blk_drewN ?_ _ | refine blk_drew ?_ | refine blk_alloc ?_ _)); refine blk_put (cs := #[.int .i64 0, .slice none 0 0]) ?_ 0 _ rfl; (with_reducible repeat (first | refine blk_drewN ?_ _ | refine blk_drew ?_ | refine blk_alloc ?_ _)); exact BK492.out⟩, ⟨Bl_ HB⟩⟩
   case round =>
    clear H'
    try clear c1
    try clear c2
    try clear p2
    try clear c3
    try clear c4
    try clear p6
    try clear c8
    try clear c10
    try clear c11
    try clear c14
    try clear c17
    try clear c18
    try clear c21
    try clear c22
    try clear c23
    try clear c24
    try clear c34
    try clear c35
    try clear c36
    try clear hcz12_0
    try clear hcz12_1
    try clear hcz15_0
    try clear hcz15_1
    try clear hcz19_0
    try clear hcz19_1
    try clear hcz24_0
    try clear hcz24_1
    try clear hcz37_0
    try clear hcz37_1
    try clear hfz12_0
    try clear hfz12_1
    try clear hfz15_0
    try clear hfz15_1
    try clear hfz19_0
    try clear hfz19_1
    try clear hfz24_0
    try clear hfz24_1
    try clear hfz37_0
    try clear hfz37_1
    try clear p2
    obtain ⟨x30_2, x493001_2, u493001, rfl, HA, HK2, HO_493001, BK484, BK485, BK486, BK492, HB⟩ := hrel
    cases gk with
    | zero => exact absurd HA.out (by simp [impl_BesideLadders.l0])
    | succ k2 =>
     have H := HA.out
     clear HA
     simp only [impl_BesideLadders.l0] at H
     by_cases c38 : x30_2 < (l1_1.length : Int)
     rotate_left
     ·rw [if_neg c38] at H
      have c38b0 : decide (x30_2 < (l1_1.length : Int)) = false := decide_eq_false c38
      clear c38
      obtain ⟨⟨t497, t498, t501⟩, A52, H⟩ := ob_ H
      (try dsimp only at H)
      simp only [Option.some.injEq, Prod.mk.injEq] at H
      obtain ⟨rfl, rfl, rfl⟩ := H
      have hnb53 := NB492_484.out
      have hnc53 := NB484_492.out
      have hnb54 := NB492_485.out
      have hnc54 := NB485_492.out
      have hnb55 := NB492_486.out
      have hnc55 := NB486_492.out
      have hcz56_0 : wr.cell? ⟨gb492, 0, none⟩ = some (.int .i64 (wrap64 (a0_0 + a1_0))) := (blk_cell BK492.out 0).trans rfl
      have hcz56_1 : wr.cell? ⟨gb492, 1, none⟩ = some (u493001) := (blk_cell BK492.out 1).trans rfl
      have hfz56_0 := fz_ BK492 0
      have hfz56_1 := fz_ BK492 1
      obtain ⟨Ao57, co57, eo57⟩ := Kd.R_slice HO_493001.out
      subst eo57
      go_wp2_with (first | ((with_reducible refine gate_callee (f := 52) rfl ?_); refine gm_ (some 45) Try.func52 #[.agg #[.int .i64 (wrap64 (a0_0 + a1_0)), .slice Ao57 x493001_2.length co57]] rfl ?_; (with_reducible refine (impl_checked.calls (wrap64 (a0_0 + a1_0)) (fun k_ => some k_ = (.slice Ao57 x493001_2.length co57 : Value).ownBlock) (.slice Ao57 x493001_2.length co57) x493001_2 t497 t498 t501 w _ ?side1 ?side2 A52.out).mono ?_); (case side1 => repeat (first | (with_reducible first | exact HB.out | apply below_alloc | apply pw_below_drewN | apply below_drew1 | refine below_set ?_ GE484.out | refine below_set ?_ GE485.out | refine below_set ?_ GE486.out | refine below_set ?_ GE492.out) | exact HB.out)); (case side2 => exact Kd.R_tight rfl HO_493001.out); rintro e w58 ⟨v499, rfl, ho0, hb, hkp⟩; refine ⟨_, rfl, ?_⟩; replace BK484 := a_ (blk_kept (bl_ BK484) hkp (fun hs_ => (fun e_ => (Kd.R_ne HO_493001.out BK484.out (by decide)) e_) hs_)); replace BK485 := a_ (blk_kept (bl_ BK485) hkp (fun hs_ => (fun e_ => (Kd.R_ne HO_493001.out BK485.out (by decide)) e_) hs_)); replace BK486 := a_ (blk_kept (bl_ BK486) hkp (fun hs_ => (fun e_ => (Kd.R_ne HO_493001.out BK486.out (by decide)) e_) hs_)); replace BK492 := a_ (blk_kept (bl_ BK492) hkp (fun hs_ => (fun e_ => (Kd.R_ne HO_493001.out BK492.out (by decide)) e_) hs_)); have HO500 := a_ (Kd.R_mono (ok' := fun k_ => True) ho0 (fun k_ hk_ => trivial)); replace HB := a_ (hb); clear HO_493001; (try clear hb); (try clear hkp); (try clear ho0); have hnb59 := NB486_484.out; have hnc59 := NB484_486.out; have hnb60 := NB486_485.out; have hnc60 := NB485_486.out; have hcz61_0 := cz_ (.int .i64 0) BK486 0; have hcz61_1 := cz_ (.slice none 0 0) BK486 1; have hfz61_0 := fz_ BK486 0; have hfz61_1 := fz_ BK486 1; obtain ⟨Ao62, co62, eo62⟩ := Kd.R_slice HO500.out; subst eo62))
      refine bodyPost_ret (results_ct rfl _ _ gb486 26 #[.int .i64 t497, .slice Ao62 t498.length co62] (0, 0) _ rfl (by (with_reducible repeat (first | refine blk_drewN ?_ _ | refine blk_drew ?_ | refine blk_alloc ?_ _)); refine blk_put (cs := #[.int .i64 t497, .slice none 0 0]) ?_ 1 _ rfl; (with_reducible repeat (first | refine blk_drewN ?_ _ | refine blk_drew ?_ | refine blk_alloc ?_ _)); refine blk_put (cs := #[.int .i64 0, .slice none 0 0]) ?_ 0 _ rfl; (with_reducible repeat (first | refine blk_drewN ?_ _ | refine blk_drew ?_ | refine blk_alloc ?_ _)); exact BK486.out) Try.underlying26 rfl (by kernel_rfl)) rfl ?_
      exact ⟨_, re_, by (with_reducible repeat (first | apply Kd.R_alloc | apply Kd.R_drewN | apply Kd.R_drew)); exact Kd.R_mono (Kd.R_far (p := ⟨gb486, 1, none⟩) (Kd.R_far (p := ⟨gb486, 0, none⟩) (Kd.R_types HO500.out BK486.out (by decide)) (fun _ hk => hk.2) (.int .i64 t497)) (fun _ hk => hk.2) (.slice Ao62 t498.length co62)) (fun _ hk => trivial), Bl_ HB⟩
     rw [if_pos c38] at H
     have c38b0 : decide (x30_2 < (l1_1.length : Int)) = true := decide_eq_true c38
     clear c38
     by_cases c39 : 0 ≤ x30_2
     rotate_left
     ·rw [if_neg c39] at H
      cases H
     rw [if_pos c39] at H
     have c39b0 : decide (0 ≤ x30_2) = true := decide_eq_true c39
     clear c39
     by_cases c40 : x30_2 < (l1_1.length : Int)
     rotate_left
     ·rw [if_neg c40] at H
      cases H
     rw [if_pos c40] at H
     have c40b0 : decide (x30_2 < (l1_1.length : Int)) = true := decide_eq_true c40
     clear c40
     by_cases c41 : x493001_2.length < 17592186044416
     rotate_left
     ·rw [if_neg c41] at H
      cases H
     rw [if_pos c41] at H
     have LMc41 := a_ c41
     clear c41
     obtain ⟨y494, hy494⟩ : ∃ y_ : List Int, y_ = (x493001_2 ++ [wrap64 (a0_0 + (rd l1_1 x30_2))]) := ⟨_, rfl⟩
     replace H : (impl_BesideLadders.l0 k2 l1_1 (l1_1.length : Int) (wrap64 (x30_2 + 1)) a0_0 l0_1 (wrap64 (a0_0 + a1_0)) y494) = some (r1, r2, r3) := by first | (rw [hy494]; with_reducible exact H) | (have H2_ := (Option.bind_some _ _).symm.trans H; rw [hy494]; with_reducible exact H2_) | (have H2_ := (Option.bind_some _ _).symm.trans H; with_reducible exact H2_) | with_reducible exact H | (rw [hy494]; exact H) | exact H
     have Ny494 := a_ hy494
     clear hy494
     have H' := a_ H
     clear H
     have p493 : 0 ≤ (x30_2 : Int) := od_
     have q493 : x30_2 < (l1_1.length : Int) := od_
     obtain ⟨ad493, e493, hx493_0⟩ := Kd.at_int HR1_1.out x30_2 p493 q493
     cases e493
     replace hx493_0 := (HB.out.cell (World.block_lt_of_cell? w _ hx493_0)).trans hx493_0
     replace p493 := eq_true p493
     replace q493 := eq_true q493
     have hnb42 := NB492_484.out
     have hnc42 := NB484_492.out
     have hnb43 := NB492_485.out
     have hnc43 := NB485_492.out
     have hnb44 := NB492_486.out
     have hnc44 := NB486_492.out
     have hcz45_0 : wr.cell? ⟨gb492, 0, none⟩ = some (.int .i64 (wrap64 (a0_0 + a1_0))) := (blk_cell BK492.out 0).trans rfl
     have hcz45_1 : wr.cell? ⟨gb492, 1, none⟩ = some (u493001) := (blk_cell BK492.out 1).trans rfl
     have hfz45_0 := fz_ BK492 0
     have hfz45_1 := fz_ BK492 1
     have hnb46 := NB484_485.out
     have hnc46 := NB485_484.out
     have hnb47 := NB484_486.out
     have hnc47 := NB486_484.out
     have hcz48_0 : wr.cell? ⟨gb484, 0, none⟩ = some (.int .i64 a0_0) := (blk_cell BK484.out 0).trans rfl
     have hcz48_1 : wr.cell? ⟨gb484, 1, none⟩ = some (.slice A0_1 l0_1.length c0_1) := (blk_cell BK484.out 1).trans rfl
     have hfz48_0 := fz_ BK484 0
     have hfz48_1 := fz_ BK484 1
     go_wp2_with (first | ((with_reducible refine gate_builtin (b := .append) (xs := #[.tmp 35, .tmp 40]) rfl ?_); at_builtin; refine Kd.R_append (Kd.int .i64) (w0 := w) w.heap.size rfl (.tmp 35) (.tmp 40) 24 3 (.int .i64 0) 8 rfl Try.underlying24 info3 rfl (by decide) (by omega) u493001 x493001_2 (wrap64 (a0_0 + (rd l1_1 x30_2))) [.int .i64 (wrap64 (a0_0 + (rd l1_1 x30_2)))] (fun _ => True) (fun _ => False) rfl rfl ?aP (fun _ hk => hk.elim) ?aF ?aO ?aB ?aS ?aL ?_; (case aP => exact rfl); (case aB => exact (Bl_ HB)); (case aF => exact (fun _ _ => trivial)); (case aO => exact (Rl_ HO_493001.out)); (case aS => exact (below_size (Bl_ HB))); (case aL => have := LMc41.out; omega); intro v495 w49 ho hb hg hat; rw [← Ny494.out] at ho; replace BK484 := a_ (blk_grown (g := gb484) (o := .cells #[.int .i64 a0_0, .slice A0_1 l0_1.length c0_1] 26 (0, 0)) (bl_ BK484) hg (Kd.R_ne HO_493001.out BK484.out (by decide))); replace BK485 := a_ (blk_grown (g := gb485) (o := .cells #[.int .i64 a1_0, .slice (some ad493) l1_1.length c1_1] 26 (0, 0)) (bl_ BK485) hg (Kd.R_ne HO_493001.out BK485.out (by decide))); replace BK486 := a_ (blk_grown (g := gb486) (o := .cells #[.int .i64 0, .slice none 0 0] 26 (0, 0)) (bl_ BK486) hg (Kd.R_ne HO_493001.out BK486.out (by decide))); replace BK492 := a_ (blk_grown (g := gb492) (o := .cells #[.int .i64 (wrap64 (a0_0 + a1_0)), u493001] 26 (0, 0)) (bl_ BK492) hg (Kd.R_ne HO_493001.out BK492.out (by decide))); replace HB := a_ (hb); have HO496 := a_ (ho); clear HO_493001; clear ho hb hg hat; obtain ⟨Ao50, co50, eo50⟩ := Kd.R_slice HO496.out; subst eo50; have hcz51_0 := cz_ (.int .i64 (wrap64 (a0_0 + a1_0))) BK492 0; have hcz51_1 := cz_ (u493001) BK492 1; have hfz51_0 := fz_ BK492 0; have hfz51_1 := fz_ BK492 1))
     go_roundg k2
     case measure => have := HJ2.out; have := HK2.out; omega
     case rel => exact ⟨(wrap64 (x30_2 + 1)), (y494), (.slice Ao50 y494.length co50), rs_, H', ⟨by have := HJ2.out; have := HK2.out; omega⟩, ⟨Rl_ (Kd.R_mono (Kd.R_far (p := ⟨gb492, 1, none⟩) (Kd.R_types HO496.out BK492.out (by decide)) (fun _ hk => hk.2) (.slice Ao50 y494.length co50)) (fun _ hk => trivial))⟩, ⟨by (with_reducible repeat (first | refine blk_drewN ?_ _ | refine blk_drew ?_ | refine blk_alloc ?_ _)); refine blk_far ?_ NB484_492.out _; (with_reducible repeat (first | refine blk_drewN ?_ _ | refine blk_drew ?_ | refine blk_alloc ?_ _)); exact BK484.out⟩, ⟨by (with_reducible repeat (first | refine blk_drewN ?_ _ | refine blk_drew ?_ | refine blk_alloc ?_ _)); refine blk_far ?_ NB485_492.out _; (with_reducible repeat (first | refine blk_drewN ?_ _ | refine blk_drew ?_ | refine blk_alloc ?_ _)); exact BK485.out⟩, ⟨by (with_reducible repeat (first | refine blk_drewN ?_ _ | refine blk_drew ?_ | refine blk_alloc ?_ _)); refine blk_far ?_ NB486_492.out _; (with_reducible repeat (first | refine blk_drewN ?_ _ | refine blk_drew ?_ | refine blk_alloc ?_ _)); exact BK486.out⟩, ⟨by (with_reducible repeat (first | refine blk_drewN ?_ _ | refine blk_drew ?_ | refine blk_alloc ?_ _)); refine blk_put (cs := #[.int .i64 (wrap64 (a0_0 + a1_0)), u493001]) ?_ 1 _ rfl; (with_reducible repeat (first | refine blk_drewN ?_ _ | refine blk_drew ?_ | refine blk_alloc ?_ _)); exact BK492.out⟩, ⟨Bl_ HB⟩⟩

/-! ### spec_BesideLadders: function 25 -/
mutual
def spec_BesideLadders.j0 : Nat → Bool → Int → List Int → Int → List Int → Option (Int × List Int × Bool)
 | 0, _, _, _, _, _ => none
 | k + 1, x16, x503000, x503001, x504000, x504001 => if x16 = true then (some (0, ([] : List Int), false)) else ((spec_l1Own.f x503001).bind fun t507 => (spec_BesideLadders.l0 k x504001 (x504001.length : Int) 0 x503000 x503001 (wrap64 (x503000 + x504000)) t507))
def spec_BesideLadders.l0 : Nat → List Int → Int → Int → Int → List Int → Int → List Int → Option (Int × List Int × Bool)
 | 0, _, _, _, _, _, _, _ => none
 | k + 1, x28, x29, x30, x503000, x503001, x511000, x511001 => if x30 < x29 then (if 0 ≤ x30 then (if x30 < (x28.length : Int) then (if x511001.length < 17592186044416 then (spec_BesideLadders.l0 k x28 x29 (wrap64 (x30 + 1)) x503000 x503001 x511000 (x511001 ++ [wrap64 (x503000 + (rd x28 x30))])) else (none)) else (none)) else (none)) else ((spec_laIf.f k x511000 x511001).bind fun bt515 => (some (bt515.1, bt515.2.1, bt515.2.2)))
end
def spec_BesideLadders.f (k : Nat) (a0_0 : Int) (l0_1 : List Int) (a1_0 : Int) (l1_1 : List Int) : Option (Int × List Int × Bool) := (spec_laGood.f k a0_0 l0_1).bind fun t505 => (if t505 = true then ((spec_laGood.f k a1_0 l1_1).bind fun t506 => (spec_BesideLadders.j0 k (!t506) a0_0 l0_1 a1_0 l1_1)) else (spec_BesideLadders.j0 k true a0_0 l0_1 a1_0 l1_1))
theorem spec_BesideLadders.mono_l : ∀ k, (∀ y0 y1 y2 y3 y4, LeO (spec_BesideLadders.j0 k y0 y1 y2 y3 y4) (spec_BesideLadders.j0 (k + 1) y0 y1 y2 y3 y4)) ∧ (∀ y0 y1 y2 y3 y4 y5 y6, LeO (spec_BesideLadders.l0 k y0 y1 y2 y3 y4 y5 y6) (spec_BesideLadders.l0 (k + 1) y0 y1 y2 y3 y4 y5 y6))
 | 0 => ⟨fun _ _ _ _ _ r h => by simp [spec_BesideLadders.j0] at h, fun _ _ _ _ _ _ _ r h => by simp [spec_BesideLadders.l0] at h⟩
 | k + 1 => by
  obtain ⟨ih0, ih1⟩ := spec_BesideLadders.mono_l k
  refine ⟨?_, ?_⟩
  ·intro y0 y1 y2 y3 y4
   unfold spec_BesideLadders.j0
   repeat' first
   | (with_reducible exact ih1 _ _ _ _ _ _ _)
   | (with_reducible exact LeO.refl _)
   | (with_reducible exact LeO.none _)
   | (with_reducible refine LeO.ite ?_ ?_)
   | (with_reducible refine LeO.bind ?_ (fun _ => ?_))
   | exact LeO.none _
   | refine LeO.ite ?_ ?_
   | refine LeO.bind ?_ (fun _ => ?_)
  ·intro y0 y1 y2 y3 y4 y5 y6
   unfold spec_BesideLadders.l0
   repeat' first
   | (with_reducible exact ih1 _ _ _ _ _ _ _)
   | (with_reducible exact spec_laIf.mono _ _ _)
   | (with_reducible exact LeO.refl _)
   | (with_reducible exact LeO.none _)
   | (with_reducible refine LeO.ite ?_ ?_)
   | (with_reducible refine LeO.bind ?_ (fun _ => ?_))
   | exact LeO.none _
   | refine LeO.ite ?_ ?_
   | refine LeO.bind ?_ (fun _ => ?_)
theorem spec_BesideLadders.mono : ∀ a0 a1 a2 a3 k, LeO (spec_BesideLadders.f k a0 a1 a2 a3) (spec_BesideLadders.f (k + 1) a0 a1 a2 a3) := by
 intro a0 a1 a2 a3 k
 obtain ⟨ih0, ih1⟩ := spec_BesideLadders.mono_l k
 unfold spec_BesideLadders.f
 repeat' first
  | (with_reducible exact ih0 _ _ _ _ _)
  | (with_reducible exact spec_laGood.mono _ _ _)
  | (with_reducible exact LeO.refl _)
  | (with_reducible exact LeO.none _)
  | (with_reducible refine LeO.ite ?_ ?_)
  | (with_reducible refine LeO.bind ?_ (fun _ => ?_))
  | exact LeO.none _
  | refine LeO.ite ?_ ?_
  | refine LeO.bind ?_ (fun _ => ?_)
def spec_BesideLadders.T3 : Bool × List (List Nat × List Nat) := (true, [([], []), ([0], [0]), ([], []), ([2], [2]), ([1, 3], [1, 3]), ([], []), ([5], [5]), ([6], [6]), ([4, 7], [4, 7]), ([], []), ([9, 8, 7, 0, 1, 2, 3, 4, 5, 6, 7, 8, 9], [8, 9])])
def spec_BesideLadders.B3 : List Nat := [0, 1, 0, 4, 15, 0, 32, 96, 255, 0, 1023]
theorem spec_BesideLadders.tab3 : rtab .any (opsOf Try.f25 3) = spec_BesideLadders.T3 := by kernel_rfl
theorem spec_BesideLadders.bits3 : waitsOk spec_BesideLadders.T3.2 spec_BesideLadders.B3 = true := by kernel_rfl
set_option maxHeartbeats 8000000 in
set_option maxRecDepth 100000 in
theorem spec_BesideLadders.calls (k : Nat) (a0_0 : Int) (A0_1 : Option Addr) (c0_1 : Nat) (l0_1 : List Int) (a1_0 : Int) (A1_1 : Option Addr) (c1_1 : Nat) (l1_1 : List Int) (r1 : Int) (r2 : List Int) (r3 : Bool) (w : World) (hr0_1 : Kd.C (Kd.int .i64) w A0_1 l0_1.length l0_1) (hc0_1 : l0_1.length ≤ c0_1) (hr1_1 : Kd.C (Kd.int .i64) w A1_1 l1_1.length l1_1) (hc1_1 : l1_1.length ≤ c1_1) (h : spec_BesideLadders.f k a0_0 l0_1 a1_0 l1_1 = some (r1, r2, r3)) :
 Calls Try.prog 25 #[.agg #[.int .i64 a0_0, .slice A0_1 l0_1.length c0_1], .agg #[.int .i64 a1_0, .slice A1_1 l1_1.length c1_1]] w fun e w' => ∃ v1_ : Value, e = .returned (.tuple #[.agg #[.int .i64 r1, v1_], .bool r3]) ∧ Kd.R (Kd.int .i64) 3 w' w.heap.size (fun _ => True) v1_ r2 ∧ Below w.heap.size w w' := by
 have hu26 := Try.underlying26
 have HR0_1 := a_ hr0_1
 have HC0_1 := a_ hc0_1
 clear hr0_1 hc0_1
 have HR1_1 := a_ hr1_1
 have HC1_1 := a_ hc1_1
 clear hr1_1 hc1_1
 have HB := a_ (Below.refl w.heap.size w)
 have H : ((spec_laGood.f k a0_0 l0_1).bind fun t505 => (if t505 = true then ((spec_laGood.f k a1_0 l1_1).bind fun t506 => (spec_BesideLadders.j0 k (!t506) a0_0 l0_1 a1_0 l1_1)) else (spec_BesideLadders.j0 k true a0_0 l0_1 a1_0 l1_1))) = some (r1, r2, r3) := h
 clear h
 have HC3 := a_ H
 clear H
 go_enter Try.func25, Try.ntmps25
 go_upto_region 1 with (first | ((with_reducible refine gate_dst (N := 2) rfl ?_); refine bx_ #[.int .i64 a0_0, .slice A0_1 l0_1.length c0_1] 26 ?_ 2; intro gb502 hg w4 hbox hb; have BK502 := a_ (hbox); have GW502 := gw_ HB hg; have GE502 := gw_ HB hg; replace HB := Bs_ HB hb; clear hb hbox hg) | ((with_reducible refine gate_dst (N := 3) rfl ?_); refine bx_ #[.int .i64 a1_0, .slice A1_1 l1_1.length c1_1] 26 ?_ 3; intro gb503 hg w5 hbox hb; have BK503 := a_ (hbox); have GW503 := gw_ HB hg; have GE503 := gw_ HB hg; replace HB := Bs_ HB hb; have NB502_503 := nbl_ BK502 hg; have NB503_502 := nbg_ BK502 hg; replace BK502 := blkB_ BK502 hb; clear hb hbox hg) | ((with_reducible refine gate_dst (N := 4) rfl ?_); refine bx_ #[.int .i64 0, .slice none 0 0] 26 ?_ 4; intro gb504 hg w6 hbox hb; have BK504 := a_ (hbox); have GW504 := gw_ HB hg; have GE504 := gw_ HB hg; replace HB := Bs_ HB hb; have NB502_504 := nbl_ BK502 hg; have NB504_502 := nbg_ BK502 hg; replace BK502 := blkB_ BK502 hb; have NB503_504 := nbl_ BK503 hg; have NB504_503 := nbg_ BK503 hg; replace BK503 := blkB_ BK503 hb; clear hb hbox hg))
 (try simp only [Act.put, List.setIfInBounds_toArray, List.set_cons_zero, List.set_cons_succ])
 go_cut [16] (fun v16 wc => ∃ (kq : Nat) (x16_2 : Bool), v16 = .bool x16_2 ∧ Aside0 (spec_BesideLadders.j0 kq x16_2 a0_0 l0_1 a1_0 l1_1 = some (r1, r2, r3)) ∧ Aside0 (kq ≤ k) ∧ Aside0 (wc.heap[gb502]? = some (.cells #[.int .i64 a0_0, (.slice A0_1 l0_1.length c0_1)] 26 (0, 0))) ∧ Aside0 (wc.heap[gb503]? = some (.cells #[.int .i64 a1_0, (.slice A1_1 l1_1.length c1_1)] 26 (0, 0))) ∧ Aside0 (wc.heap[gb504]? = some (.cells #[.int .i64 0, (.slice none 0 0)] 26 (0, 0))) ∧ Aside0 (Below w.heap.size w wc))
 case first =>
  have H := HC3.out
  clear HC3
  obtain ⟨t505, A7, H⟩ := ob_ H
  (try dsimp only at H)
  by_cases c8 : t505 = true
  rotate_left
  ·replace c8 := Bool.eq_false_iff.mpr c8
   subst c8
   rw [if_neg (show ¬ (false = true) by decide)] at H
   have H' := a_ H
   clear H
   have hnb17 := NB502_503.out
   have hnc17 := NB503_502.out
   have hnb18 := NB502_504.out
   have hnc18 := NB504_502.out
   have hcz19_0 := cz_ (.int .i64 a0_0) BK502 0
   have hcz19_1 := cz_ (.slice A0_1 l0_1.length c0_1) BK502 1
   have hfz19_0 := fz_ BK502 0
   have hfz19_1 := fz_ BK502 1
   go_wp2_with (first | ((with_reducible refine gate_callee (f := 45) rfl ?_); refine gm_ (some 10) Try.func45 #[.agg #[.int .i64 a0_0, .slice A0_1 l0_1.length c0_1]] rfl ?_; (with_reducible refine (spec_laGood.calls k a0_0 _ _ l0_1 false _ ?side1 ?side2 A7.out).mono ?_); (case side1 => exact Cl_ (Kd.C_below HR0_1.out HB.out)); (case side2 => exact HC0_1.out); rintro e w20 ⟨rfl, hb⟩; refine ⟨_, rfl, ?_⟩; replace BK502 := blkB_ BK502 hb; replace BK503 := blkB_ BK503 hb; replace BK504 := blkB_ BK504 hb; replace HB := Bs_ HB hb; (try clear hb); (try clear hb2); (try clear hk); (try clear hi)))
   go_meet
   case rel => exact ⟨_, (true), rs_, H', ⟨by first | omega | exact Nat.le_refl _⟩, ⟨bl_ BK502⟩, ⟨bl_ BK503⟩, ⟨bl_ BK504⟩, ⟨Bl_ HB⟩⟩
  subst c8
  rw [if_pos rfl] at H
  obtain ⟨t506, A9, H⟩ := ob_ H
  (try dsimp only at H)
  have H' := a_ H
  clear H
  have hnb10 := NB502_503.out
  have hnc10 := NB503_502.out
  have hnb11 := NB502_504.out
  have hnc11 := NB504_502.out
  have hcz12_0 := cz_ (.int .i64 a0_0) BK502 0
  have hcz12_1 := cz_ (.slice A0_1 l0_1.length c0_1) BK502 1
  have hfz12_0 := fz_ BK502 0
  have hfz12_1 := fz_ BK502 1
  go_wp2_with (first | ((with_reducible refine gate_callee (f := 45) rfl ?_); refine gm_ (some 10) Try.func45 #[.agg #[.int .i64 a0_0, .slice A0_1 l0_1.length c0_1]] rfl ?_; (with_reducible refine (spec_laGood.calls k a0_0 _ _ l0_1 true _ ?side1 ?side2 A7.out).mono ?_); (case side1 => exact Cl_ (Kd.C_below HR0_1.out HB.out)); (case side2 => exact HC0_1.out); rintro e w13 ⟨rfl, hb⟩; refine ⟨_, rfl, ?_⟩; replace BK502 := blkB_ BK502 hb; replace BK503 := blkB_ BK503 hb; replace BK504 := blkB_ BK504 hb; replace HB := Bs_ HB hb; (try clear hb); (try clear hb2); (try clear hk); (try clear hi); have hnb14 := NB503_504.out; have hnc14 := NB504_503.out; have hcz15_0 := cz_ (.int .i64 a1_0) BK503 0; have hcz15_1 := cz_ (.slice A1_1 l1_1.length c1_1) BK503 1; have hfz15_0 := fz_ BK503 0; have hfz15_1 := fz_ BK503 1) | (go_at_call 45; (with_reducible refine (spec_laGood.calls k a1_0 _ _ l1_1 t506 _ ?side1 ?side2 A9.out).mono ?_); (case side1 => exact Cl_ (Kd.C_below HR1_1.out HB.out)); (case side2 => exact HC1_1.out); rintro e w16 ⟨rfl, hb⟩; replace BK502 := blkB_ BK502 hb; replace BK503 := blkB_ BK503 hb; replace BK504 := blkB_ BK504 hb; replace HB := Bs_ HB hb; (try clear hb); (try clear hb2); (try clear hk); (try clear hi)))
  go_meet
  case rel => exact ⟨_, (!t506), rs_, H', ⟨by first | omega | exact Nat.le_refl _⟩, ⟨bl_ BK502⟩, ⟨bl_ BK503⟩, ⟨bl_ BK504⟩, ⟨Bl_ HB⟩⟩
 case rest =>
  as_aux_lemma =>
  clear HC3
  try clear c1
  try clear c2
  try clear p2
  try clear c4
  try clear c8
  try clear c10
  try clear c11
  try clear c14
  try clear c17
  try clear c18
  try clear hcz12_0
  try clear hcz12_1
  try clear hcz15_0
  try clear hcz15_1
  try clear hcz19_0
  try clear hcz19_1
  try clear hfz12_0
  try clear hfz12_1
  try clear hfz15_0
  try clear hfz15_1
  try clear hfz19_0
  try clear hfz19_1
  obtain ⟨kq, x16_2, rfl, HA, HJ2, BK502, BK503, BK504, HB⟩ := hcut
  cases kq with
  | zero => exact absurd HA.out (by simp [spec_BesideLadders.j0])
  | succ kj2 =>
   have H := HA.out
   clear HA
   simp only [spec_BesideLadders.j0] at H
   by_cases c21 : x16_2 = true
   ·subst c21
    rw [if_pos rfl] at H
    simp only [Option.some.injEq, Prod.mk.injEq] at H
    obtain ⟨rfl, rfl, rfl⟩ := H
    have hnb22 := NB504_502.out
    have hnc22 := NB502_504.out
    have hnb23 := NB504_503.out
    have hnc23 := NB503_504.out
    have hcz24_0 : wc.cell? ⟨gb504, 0, none⟩ = some (.int .i64 0) := (blk_cell BK504.out 0).trans rfl
    have hcz24_1 : wc.cell? ⟨gb504, 1, none⟩ = some (.slice none 0 0) := (blk_cell BK504.out 1).trans rfl
    have hfz24_0 := fz_ BK504 0
    have hfz24_1 := fz_ BK504 1
    go_wp2
    refine bodyPost_ret (results_ct rfl _ _ gb504 26 #[.int .i64 0, .slice none 0 0] (0, 0) _ rfl (by (with_reducible repeat (first | refine blk_drewN ?_ _ | refine blk_drew ?_ | refine blk_alloc ?_ _)); refine blk_put (cs := #[.int .i64 0, .slice none 0 0]) ?_ 1 _ rfl; (with_reducible repeat (first | refine blk_drewN ?_ _ | refine blk_drew ?_ | refine blk_alloc ?_ _)); refine blk_put (cs := #[.int .i64 0, .slice none 0 0]) ?_ 0 _ rfl; (with_reducible repeat (first | refine blk_drewN ?_ _ | refine blk_drew ?_ | refine blk_alloc ?_ _)); exact BK504.out) Try.underlying26 rfl (by kernel_rfl)) rfl ?_
    exact ⟨_, re_, by first | exact Kd.R_nil _ _ _ _ _ | exact Kd.N_nil _ _ _ _ _ | exact Kd.V_nil _ _ _ _ _ | exact Kd.Q_nil _ _ _ _ _ | exact Kd.S_nil _ _ _ _ _, Bl_ HB⟩
   replace c21 := Bool.eq_false_iff.mpr c21
   subst c21
   rw [if_neg (show ¬ (false = true) by decide)] at H
   obtain ⟨t507, A25, H⟩ := ob_ H
   (try dsimp only at H)
   have H' := a_ H
   clear H
   try go_wp2
   replace BK502 := a_ (blk_drew BK502.out)
   replace BK503 := a_ (blk_drew BK503.out)
   replace BK504 := a_ (blk_drew BK504.out)
   replace HB := a_ (below_drew1 HB.out)
   refine start_ (n := 11) (S := fun w' => w'.cell? ⟨gb502, 0, none⟩ = some (.int .i64 a0_0) ∧ w'.cell? ⟨gb502, 1, none⟩ = some (.slice A0_1 l0_1.length c0_1) ∧ w'.cell? ⟨gb503, 0, none⟩ = some (.int .i64 a1_0) ∧ w'.cell? ⟨gb503, 1, none⟩ = some (.slice A1_1 l1_1.length c1_1)) (ds := []) (fl_ 11 0) (by kernel_rfl) rfl rfl ⟨(blk_cell BK502.out 0).trans rfl, (blk_cell BK502.out 1).trans rfl, (blk_cell BK503.out 0).trans rfl, (blk_cell BK503.out 1).trans rfl⟩ (fun hHeld => ?_); refine with_tabW spec_BesideLadders.tab3 spec_BesideLadders.bits3 (fun HT_ HW_ => ?_)
   generalize wc.drew = w26 at BK502 BK503 BK504 HB hHeld ⊢
   refine pure_ (i := 0) (N := some 18) (v := ?_) (a' := ?_) (fl_ 11 1) rfl rfl (any_of HT_.out (by kernel_rfl)) (fun _ _ _ h => h) (Or.inl ⟨by rfl, ?_⟩) ?_ ?_
   rotate_left
   ·intro w'
    go_simp
    with_reducible rfl
   rotate_left
   ·simp only [Act.put, List.setIfInBounds_toArray, List.set_cons_zero, List.set_cons_succ, i64_w, i32_w]
    rfl
   refine pure_ (i := 2) (N := some 20) (v := ?_) (a' := ?_) #[true, false, true, false, false, false, false, false, false, false, false] rfl rfl (any_of HT_.out (by kernel_rfl)) (fun _ _ _ h => h) (Or.inl ⟨by rfl, ?_⟩) ?_ ?_
   rotate_left
   ·intro w'
    go_simp
    with_reducible rfl
   rotate_left
   ·simp only [Act.put, List.setIfInBounds_toArray, List.set_cons_zero, List.set_cons_succ, i64_w, i32_w]
    rfl
   refine pure_ (i := 5) (N := some 23) (v := ?_) (a' := ?_) #[true, false, true, false, false, true, false, false, false, false, false] rfl rfl (any_of HT_.out (by kernel_rfl)) (fun _ _ _ h => h) (Or.inl ⟨by rfl, ?_⟩) ?_ ?_
   rotate_left
   ·intro w'
    go_simp
    with_reducible rfl
   rotate_left
   ·simp only [Act.put, List.setIfInBounds_toArray, List.set_cons_zero, List.set_cons_succ, i64_w, i32_w]
    rfl
   refine take_ (i := 1) (N := some 19) (v := ?_) (a' := ?_) #[true, true, true, false, false, true, false, false, false, false, false] rfl rfl (take_ofW HT_.out HW_.out (by kernel_rfl)) (fun _ _ _ h => h) (Or.inl ⟨by rfl, ?_⟩) hHeld ?_ ?_
   rotate_left
   ·rintro w' ⟨s0, s1, s2, s3⟩
    go_simp
    with_reducible rfl
   rotate_left
   ·simp only [Act.put, List.setIfInBounds_toArray, List.set_cons_zero, List.set_cons_succ, i64_w, i32_w]
    rfl
   refine take_ (i := 3) (N := some 21) (v := ?_) (a' := ?_) #[true, true, true, true, false, true, false, false, false, false, false] rfl rfl (take_ofW HT_.out HW_.out (by kernel_rfl)) (fun _ _ _ h => h) (Or.inl ⟨by rfl, ?_⟩) hHeld ?_ ?_
   rotate_left
   ·rintro w' ⟨s0, s1, s2, s3⟩
    go_simp
    with_reducible rfl
   rotate_left
   ·simp only [Act.put, List.setIfInBounds_toArray, List.set_cons_zero, List.set_cons_succ, i64_w, i32_w]
    rfl
   refine pure_ (i := 4) (N := some 22) (v := ?_) (a' := ?_) (fl_ 11 6) rfl rfl (any_of HT_.out (by kernel_rfl)) (fun _ _ _ h => h) (Or.inl ⟨by rfl, ?_⟩) ?_ ?_
   rotate_left
   ·intro w'
    go_simp
    with_reducible rfl
   rotate_left
   ·simp only [Act.put, List.setIfInBounds_toArray, List.set_cons_zero, List.set_cons_succ, i64_w, i32_w]
    rfl
   refine take_ (i := 6) (N := some 24) (v := ?_) (a' := ?_) (fl_ 11 7) rfl rfl (take_ofW HT_.out HW_.out (by kernel_rfl)) (fun _ _ _ h => h) (Or.inl ⟨by rfl, ?_⟩) hHeld ?_ ?_
   rotate_left
   ·rintro w' ⟨s0, s1, s2, s3⟩
    go_simp
    with_reducible rfl
   rotate_left
   ·simp only [Act.put, List.setIfInBounds_toArray, List.set_cons_zero, List.set_cons_succ, i64_w, i32_w]
    rfl
   refine join_ (σ := Value × Nat) 1 (fl_ 11 10) (fun s_ => [(25, s_.1), (6, .pointer (some ⟨s_.2, 0, none⟩)), (26, .agg #[.int .i64 (wrap64 (a0_0 + a1_0)), s_.1])]) (fun s_ w' => (w'.cell? ⟨gb502, 0, none⟩ = some (.int .i64 a0_0) ∧ w'.cell? ⟨gb502, 1, none⟩ = some (.slice A0_1 l0_1.length c0_1) ∧ w'.cell? ⟨gb503, 0, none⟩ = some (.int .i64 a1_0) ∧ w'.cell? ⟨gb503, 1, none⟩ = some (.slice A1_1 l1_1.length c1_1)) ∧ (Kd.R (Kd.int .i64) 3 w' w.heap.size (fun _ => True) s_.1 t507) ∧ (w'.heap[gb502]? = some (.cells #[.int .i64 a0_0, .slice A0_1 l0_1.length c0_1] 26 (0, 0))) ∧ (w'.heap[gb503]? = some (.cells #[.int .i64 a1_0, .slice A1_1 l1_1.length c1_1] 26 (0, 0))) ∧ (w'.heap[gb504]? = some (.cells #[.int .i64 0, .slice none 0 0] 26 (0, 0))) ∧ (w'.heap[s_.2]? = some (.cells #[.int .i64 0, .slice none 0 0] 26 (0, 0))) ∧ (w.heap.size ≤ s_.2) ∧ (w.heap.size ≤ s_.2) ∧ (gb502 ≠ s_.2) ∧ (s_.2 ≠ gb502) ∧ (gb503 ≠ s_.2) ∧ (s_.2 ≠ gb503) ∧ (gb504 ≠ s_.2) ∧ (s_.2 ≠ gb504) ∧ (Below w.heap.size w w')) ?_ ?_
   rotate_left
   ·intro hCont
    refine two_ (i := 7) (j := 9) (Ni := some 25) (Nj := some 6) (fl_ 11 8) #[true, true, true, true, true, true, true, false, false, true, false] rfl rfl rfl rfl (two_of HT_.out (by kernel_rfl)) (by decide) (by decide) (fun K hK => ?_) (fun K hK => ?_)
    ·skip
     refine gs_ Try.func47 (by kernel_rfl) rfl #[.slice A0_1 l0_1.length c0_1] (by rfl) rfl rfl ?_
     with_reducible refine (spec_l1Own.calls _ _ l0_1 t507 _ ?side1 ?side2 A25.out).mono ?_
     (case side1 => exact Cl_ (Kd.C_below HR0_1.out HB.out))
     (case side2 => exact HC0_1.out)
     rintro e w27 ⟨v508, rfl, ho0, hb⟩
     refine ⟨_, rfl, ?_⟩
     have HO509 := a_ (Kd.R_lower ho0 (below_size (Bl_ HB)))
     replace BK502 := blkB_ BK502 hb
     replace BK503 := blkB_ BK503 hb
     replace BK504 := blkB_ BK504 hb
     replace HB := Bs_ HB hb
     (try clear hb); (try clear hb2); (try clear hk); (try clear hi); (try clear ho0)
     obtain ⟨Ao28, co28, eo28⟩ := Kd.R_slice HO509.out
     (first | subst eo28 | (injection eo28 with f1_ f2_ f3_; have f4_ := f1_.symm; have f5_ := f3_.symm; clear f1_ f2_ f3_; subst f4_; subst f5_))
     refine hK.out _ _ ⟨(blk_cell BK502.out 0).trans rfl, (blk_cell BK502.out 1).trans rfl, (blk_cell BK503.out 0).trans rfl, (blk_cell BK503.out 1).trans rfl⟩ (fun hHeld => ?_)
     clear hK K
     refine norm_ (a' := ?_) ?_ ?_
     rotate_left
     ·show Act.put _ (some 25) _ = _
      simp only [Act.put, List.setIfInBounds_toArray, List.set_cons_zero, List.set_cons_succ, i64_w, i32_w]
      rfl
     refine pure_ (i := 8) (N := some 26) (v := ?_) (a' := ?_) (fl_ 11 9) rfl rfl (any_of HT_.out (by kernel_rfl)) (fun _ _ _ h => h) (Or.inl ⟨by rfl, ?_⟩) ?_ ?_
     rotate_left
     ·intro w'
      go_simp
      with_reducible rfl
     rotate_left
     ·simp only [Act.put, List.setIfInBounds_toArray, List.set_cons_zero, List.set_cons_succ, i64_w, i32_w]
      rfl
     refine one_ (i := 9) (N := some 6) (fl_ 11 10) rfl rfl (one_of HT_.out (by kernel_rfl)) (by decide) (fun K hK => ?_)
     refine box_step ?hg (N := 6) ?hd (cs := #[.int .i64 0, .slice none 0 0]) (t := 26) ?hr ?_; (case hd => rfl); (case hg => rfl); (case hr => first | (go_simp; done) | (go_simp; rfl))
     intro gb510 hg w29 hbox hb
     replace HO509 := a_ (Kd.R_below (Rl_ HO509.out) hb)
     have BK510 := a_ (hbox)
     have GW510 := gw_ HB hg
     have GE510 := gw_ HB hg
     replace HB := Bs_ HB hb
     have NB502_510 := nbl_ BK502 hg
     have NB510_502 := nbg_ BK502 hg
     replace BK502 := blkB_ BK502 hb
     have NB503_510 := nbl_ BK503 hg
     have NB510_503 := nbg_ BK503 hg
     replace BK503 := blkB_ BK503 hb
     have NB504_510 := nbl_ BK504 hg
     have NB510_504 := nbg_ BK504 hg
     replace BK504 := blkB_ BK504 hb
     clear hb hbox hg
     refine hK.out _ _ ⟨(blk_cell BK502.out 0).trans rfl, (blk_cell BK502.out 1).trans rfl, (blk_cell BK503.out 0).trans rfl, (blk_cell BK503.out 1).trans rfl⟩ (fun hHeld => ?_)
     clear hK K
     refine norm_ (a' := ?_) ?_ ?_
     rotate_left
     ·show Act.put _ (some 6) _ = _
      simp only [Act.put, List.setIfInBounds_toArray, List.set_cons_zero, List.set_cons_succ, i64_w, i32_w]
      rfl
     exact norm_ (by simp only [putAll, Act.put, List.setIfInBounds_toArray, List.set_cons_zero, List.set_cons_succ]) (hCont (.slice Ao28 t507.length co28, gb510) _ ⟨hHeld, (Rl_ HO509.out), (bl_ BK502), (bl_ BK503), (bl_ BK504), (bl_ BK510), GW510.out, GE510.out, NB502_510.out, NB510_502.out, NB503_510.out, NB510_503.out, NB504_510.out, NB510_504.out, (Bl_ HB)⟩)
    ·skip
     refine box_step ?hg (N := 6) ?hd (cs := #[.int .i64 0, .slice none 0 0]) (t := 26) ?hr ?_; (case hd => rfl); (case hg => rfl); (case hr => first | (go_simp; done) | (go_simp; rfl))
     intro gb510 hg w27 hbox hb
     have BK510 := a_ (hbox)
     have GW510 := gw_ HB hg
     have GE510 := gw_ HB hg
     replace HB := Bs_ HB hb
     have NB502_510 := nbl_ BK502 hg
     have NB510_502 := nbg_ BK502 hg
     replace BK502 := blkB_ BK502 hb
     have NB503_510 := nbl_ BK503 hg
     have NB510_503 := nbg_ BK503 hg
     replace BK503 := blkB_ BK503 hb
     have NB504_510 := nbl_ BK504 hg
     have NB510_504 := nbg_ BK504 hg
     replace BK504 := blkB_ BK504 hb
     clear hb hbox hg
     refine hK.out _ _ ⟨(blk_cell BK502.out 0).trans rfl, (blk_cell BK502.out 1).trans rfl, (blk_cell BK503.out 0).trans rfl, (blk_cell BK503.out 1).trans rfl⟩ (fun hHeld => ?_)
     clear hK K
     refine norm_ (a' := ?_) ?_ ?_
     rotate_left
     ·show Act.put _ (some 6) _ = _
      simp only [Act.put, List.setIfInBounds_toArray, List.set_cons_zero, List.set_cons_succ, i64_w, i32_w]
      rfl
     refine one_ (i := 7) (N := some 25) #[true, true, true, true, true, true, true, true, false, true, false] rfl rfl (one_of HT_.out (by kernel_rfl)) (by decide) (fun K hK => ?_)
     refine gs_ Try.func47 (by kernel_rfl) rfl #[.slice A0_1 l0_1.length c0_1] (by rfl) rfl rfl ?_
     with_reducible refine (spec_l1Own.calls _ _ l0_1 t507 _ ?side1 ?side2 A25.out).mono ?_
     (case side1 => exact Cl_ (Kd.C_below HR0_1.out HB.out))
     (case side2 => exact HC0_1.out)
     rintro e w28 ⟨v508, rfl, ho0, hb⟩
     refine ⟨_, rfl, ?_⟩
     have HO509 := a_ (Kd.R_lower ho0 (below_size (Bl_ HB)))
     replace BK502 := blkB_ BK502 hb
     replace BK503 := blkB_ BK503 hb
     replace BK504 := blkB_ BK504 hb
     replace BK510 := blkB_ BK510 hb
     replace HB := Bs_ HB hb
     (try clear hb); (try clear hb2); (try clear hk); (try clear hi); (try clear ho0)
     obtain ⟨Ao29, co29, eo29⟩ := Kd.R_slice HO509.out
     (first | subst eo29 | (injection eo29 with f1_ f2_ f3_; have f4_ := f1_.symm; have f5_ := f3_.symm; clear f1_ f2_ f3_; subst f4_; subst f5_))
     refine hK.out _ _ ⟨(blk_cell BK502.out 0).trans rfl, (blk_cell BK502.out 1).trans rfl, (blk_cell BK503.out 0).trans rfl, (blk_cell BK503.out 1).trans rfl⟩ (fun hHeld => ?_)
     clear hK K
     refine norm_ (a' := ?_) ?_ ?_
     rotate_left
     ·show Act.put _ (some 25) _ = _
      simp only [Act.put, List.setIfInBounds_toArray, List.set_cons_zero, List.set_cons_succ, i64_w, i32_w]
      rfl
     refine pure_ (i := 8) (N := some 26) (v := ?_) (a' := ?_) (fl_ 11 10) rfl rfl (any_of HT_.out (by kernel_rfl)) (fun _ _ _ h => h) (Or.inl ⟨by rfl, ?_⟩) ?_ ?_
     rotate_left
     ·intro w'
      go_simp
      with_reducible rfl
     rotate_left
     ·simp only [Act.put, List.setIfInBounds_toArray, List.set_cons_zero, List.set_cons_succ, i64_w, i32_w]
      rfl
     exact norm_ (by simp only [putAll, Act.put, List.setIfInBounds_toArray, List.set_cons_zero, List.set_cons_succ]) (hCont (.slice Ao29 t507.length co29, gb510) _ ⟨hHeld, (Rl_ HO509.out), (bl_ BK502), (bl_ BK503), (bl_ BK504), (bl_ BK510), GW510.out, GE510.out, NB502_510.out, NB510_502.out, NB503_510.out, NB510_503.out, NB504_510.out, NB510_504.out, (Bl_ HB)⟩)
   rintro ⟨v508, gb510⟩ w30 ⟨hS_, h0_, h1_, h2_, h3_, h4_, h5_, h6_, h7_, h8_, h9_, h10_, h11_, h12_, h13_⟩
   have HO509 : Aside0 (Kd.R (Kd.int .i64) 3 w30 w.heap.size (fun _ => True) v508 t507) := ⟨h0_⟩
   replace BK502 : Aside0 (w30.heap[gb502]? = some (.cells #[.int .i64 a0_0, .slice A0_1 l0_1.length c0_1] 26 (0, 0))) := ⟨h1_⟩
   replace BK503 : Aside0 (w30.heap[gb503]? = some (.cells #[.int .i64 a1_0, .slice A1_1 l1_1.length c1_1] 26 (0, 0))) := ⟨h2_⟩
   replace BK504 : Aside0 (w30.heap[gb504]? = some (.cells #[.int .i64 0, .slice none 0 0] 26 (0, 0))) := ⟨h3_⟩
   have BK510 : Aside0 (w30.heap[gb510]? = some (.cells #[.int .i64 0, .slice none 0 0] 26 (0, 0))) := ⟨h4_⟩
   have GW510 : Aside0 (w.heap.size ≤ gb510) := ⟨h5_⟩
   have GE510 : Aside0 (w.heap.size ≤ gb510) := ⟨h6_⟩
   have NB502_510 : Aside0 (gb502 ≠ gb510) := ⟨h7_⟩
   have NB510_502 : Aside0 (gb510 ≠ gb502) := ⟨h8_⟩
   have NB503_510 : Aside0 (gb503 ≠ gb510) := ⟨h9_⟩
   have NB510_503 : Aside0 (gb510 ≠ gb503) := ⟨h10_⟩
   have NB504_510 : Aside0 (gb504 ≠ gb510) := ⟨h11_⟩
   have NB510_504 : Aside0 (gb510 ≠ gb504) := ⟨h12_⟩
   replace HB : Aside0 (Below w.heap.size w w30) := ⟨h13_⟩
   clear h0_ h1_ h2_ h3_ h4_ h5_ h6_ h7_ h8_ h9_ h10_ h11_ h12_ h13_
   have hHeld : w30.cell? ⟨gb502, 0, none⟩ = some (.int .i64 a0_0) ∧ w30.cell? ⟨gb502, 1, none⟩ = some (.slice A0_1 l0_1.length c0_1) ∧ w30.cell? ⟨gb503, 0, none⟩ = some (.int .i64 a1_0) ∧ w30.cell? ⟨gb503, 1, none⟩ = some (.slice A1_1 l1_1.length c1_1) := hS_
   obtain ⟨Ao31, co31, eo31⟩ := Kd.R_slice HO509.out
   (first | subst eo31 | (injection eo31 with f1_ f2_ f3_; have f4_ := f1_.symm; have f5_ := f3_.symm; clear f1_ f2_ f3_; subst f4_; subst f5_))
   refine norm_ (a' := ?_) ?_ ?_
   rotate_left
   ·simp only [putAll, Act.put, List.setIfInBounds_toArray, List.set_cons_zero, List.set_cons_succ]
    rfl
   refine one_ (i := 10) (N := none) (fl_ 11 11) rfl rfl (one_of HT_.out (by kernel_rfl)) (by decide) (fun K hK => ?_)
   have hs32 : w30.cell? ⟨gb510, 0, none⟩ = some (.int .i64 0) := (blk_cell BK510.out 0).trans rfl
   have hfs32 := fz_ BK510 0
   have hns32_0 := NB502_510.out
   have hns32_1 := NB503_510.out
   have hns32_2 := NB504_510.out
   have hms32_0 := NB510_502.out
   have hms32_1 := NB510_503.out
   have hms32_2 := NB510_504.out
   have hs33 : w30.cell? ⟨gb510, 1, none⟩ = some (.slice none 0 0) := (blk_cell BK510.out 1).trans rfl
   have hfs33 := fz_ BK510 1
   have hns33_0 := NB502_510.out
   have hns33_1 := NB503_510.out
   have hns33_2 := NB504_510.out
   have hms33_0 := NB510_502.out
   have hms33_1 := NB510_503.out
   have hms33_2 := NB510_504.out
   refine skip_ (w1 := ?_) (by rfl) rfl ?_ ?_
   rotate_left
   ·go_simp
    rfl
   refine hK.out _ _ ⟨((cell_far (p := ⟨gb510, _, none⟩) NB502_510.out _).trans (((cell_far (p := ⟨gb510, _, none⟩) NB502_510.out _).trans (hHeld.1)))), ((cell_far (p := ⟨gb510, _, none⟩) NB502_510.out _).trans (((cell_far (p := ⟨gb510, _, none⟩) NB502_510.out _).trans (hHeld.2.1)))), ((cell_far (p := ⟨gb510, _, none⟩) NB503_510.out _).trans (((cell_far (p := ⟨gb510, _, none⟩) NB503_510.out _).trans (hHeld.2.2.1)))), ((cell_far (p := ⟨gb510, _, none⟩) NB503_510.out _).trans (((cell_far (p := ⟨gb510, _, none⟩) NB503_510.out _).trans (hHeld.2.2.2))))⟩ (fun hHeld => ?_)
   clear hK K
   refine done_ (done_of HT_.out (by kernel_rfl)) ?_
   have hnb34 := NB503_502.out
   have hnc34 := NB502_503.out
   have hnb35 := NB503_504.out
   have hnc35 := NB504_503.out
   have hnb36 := NB503_510.out
   have hnc36 := NB510_503.out
   have hcz37_0 := cz_ (.int .i64 a1_0) BK503 0
   have hcz37_1 := cz_ (.slice A1_1 l1_1.length c1_1) BK503 1
   have hfz37_0 := fz_ BK503 0
   have hfz37_1 := fz_ BK503 1
   try go_wp2
   go_loopg [30] kj2 (fun kq v30 w' => ∃ (x30_2 : Int) (x511001_2 : List Int) (u511001 : Value), v30 = .int .i64 x30_2 ∧ Aside0 (spec_BesideLadders.l0 kq l1_1 (l1_1.length : Int) x30_2 a0_0 l0_1 (wrap64 (a0_0 + a1_0)) x511001_2 = some (r1, r2, r3)) ∧ Aside0 (kq ≤ kj2) ∧ Aside0 (Kd.R (Kd.int .i64) 3 w' w.heap.size (fun _ => True) u511001 x511001_2) ∧ Aside0 (w'.heap[gb502]? = some (.cells #[.int .i64 a0_0, (.slice A0_1 l0_1.length c0_1)] 26 (0, 0))) ∧ Aside0 (w'.heap[gb503]? = some (.cells #[.int .i64 a1_0, (.slice A1_1 l1_1.length c1_1)] 26 (0, 0))) ∧ Aside0 (w'.heap[gb504]? = some (.cells #[.int .i64 0, (.slice none 0 0)] 26 (0, 0))) ∧ Aside0 (w'.heap[gb510]? = some (.cells #[.int .i64 (wrap64 (a0_0 + a1_0)), u511001] 26 (0, 0))) ∧ Aside0 (Below w.heap.size w w'))
   case atStart => exact ⟨(0), (t507), (.slice Ao31 t507.length co31), rs_, H', ⟨Nat.le_refl _⟩, ⟨Rl_ (Kd.R_mono (Kd.R_far (p := ⟨gb510, 1, none⟩) (Kd.R_far (p := ⟨gb510, 0, none⟩) (Kd.R_types HO509.out BK510.out (by decide)) (fun _ hk => hk.2) (.int .i64 (wrap64 (a0_0 + a1_0)))) (fun _ hk => hk.2) (.slice Ao31 t507.length co31)) (fun _ hk => trivial))⟩, ⟨by (with_reducible repeat (first | refine blk_drewN ?_ _ | refine blk_drew ?_ | refine blk_alloc ?_ _)); refine blk_far ?_ NB502_510.out _; (with_reducible repeat (first | refine blk_drewN ?_ _ | refine blk_drew ?_ | refine blk_alloc ?_ _)); refine blk_far ?_ NB502_510.out _; (with_reducible repeat (first | refine blk_drewN ?_ _ | refine blk_drew ?_ | refine blk_alloc ?_ _)); exact BK502.out⟩, ⟨by (with_reducible repeat (first | refine blk_drewN ?_ _ | refine blk_drew ?_ | refine blk_alloc ?_ _)); refine blk_far ?_ NB503_510.out _; (with_reducible repeat (first | refine blk_drewN ?_ _ | refine blk_drew ?_ | refine blk_alloc ?_ _)); refine blk_far ?_ NB503_510.out _; (with_reducible repeat (first | refine blk_drewN ?_ _ | refine blk_drew ?_ | refine blk_alloc ?_ _)); exact BK503.out⟩, ⟨by (with_reducible repeat (first | refine blk_drewN ?_ _ | refine blk_drew ?_ | refine blk_alloc ?_ _)); refine blk_far ?_ NB504_510.out _; (with_reducible repeat (first | refine blk_drewN ?_ _ | refine blk_drew ?_ | refine blk_alloc ?_ _)); refine blk_far ?_ NB504_510.out _; (with_reducible repeat (first | refine blk_drewN ?_ _ | refine blk_drew ?_ | refine blk_alloc ?_ _)); exact BK504.out⟩, ⟨by (with_reducible repeat (first | refine blk_drewN ?_ _ | refine blk_drew ?_ | refine blk_alloc ?_ _)); refine blk_put (cs := #[.int .i64 (wrap64 (a0_0 + a1_0)), .slice none 0 0]) ?_ 1 _ rfl; (with_reducible repeat (first | refine blk_drewN ?_ _ | refine blk_drew ?_ | refine blk_alloc ?_ _)); refine blk_put (cs := #[.int .i64 0, .slice none 0 0]) ?_ 0 _ rfl; (with_reducible repeat (first | refine blk_drewN ?_ _ | refine blk_drew ?_ | refine blk_alloc ?_ _)); exact BK510.out⟩, ⟨Bl_ HB⟩⟩
   case round =>
    clear H'
    try clear c1
    try clear c2
    try clear p2
    try clear c3
    try clear c4
    try clear p6
    try clear c8
    try clear c10
    try clear c11
    try clear c14
    try clear c17
    try clear c18
    try clear c21
    try clear c22
    try clear c23
    try clear c25
    try clear c34
    try clear c35
    try clear c36
    try clear hcz12_0
    try clear hcz12_1
    try clear hcz15_0
    try clear hcz15_1
    try clear hcz19_0
    try clear hcz19_1
    try clear hcz24_0
    try clear hcz24_1
    try clear hcz37_0
    try clear hcz37_1
    try clear hfz12_0
    try clear hfz12_1
    try clear hfz15_0
    try clear hfz15_1
    try clear hfz19_0
    try clear hfz19_1
    try clear hfz24_0
    try clear hfz24_1
    try clear hfz37_0
    try clear hfz37_1
    try clear p2
    obtain ⟨x30_2, x511001_2, u511001, rfl, HA, HK2, HO_511001, BK502, BK503, BK504, BK510, HB⟩ := hrel
    cases gk with
    | zero => exact absurd HA.out (by simp [spec_BesideLadders.l0])
    | succ k2 =>
     have H := HA.out
     clear HA
     simp only [spec_BesideLadders.l0] at H
     by_cases c38 : x30_2 < (l1_1.length : Int)
     rotate_left
     ·rw [if_neg c38] at H
      have c38b0 : decide (x30_2 < (l1_1.length : Int)) = false := decide_eq_false c38
      clear c38
      obtain ⟨⟨t515, t516, t519⟩, A52, H⟩ := ob_ H
      (try dsimp only at H)
      simp only [Option.some.injEq, Prod.mk.injEq] at H
      obtain ⟨rfl, rfl, rfl⟩ := H
      have hnb53 := NB510_502.out
      have hnc53 := NB502_510.out
      have hnb54 := NB510_503.out
      have hnc54 := NB503_510.out
      have hnb55 := NB510_504.out
      have hnc55 := NB504_510.out
      have hcz56_0 : wr.cell? ⟨gb510, 0, none⟩ = some (.int .i64 (wrap64 (a0_0 + a1_0))) := (blk_cell BK510.out 0).trans rfl
      have hcz56_1 : wr.cell? ⟨gb510, 1, none⟩ = some (u511001) := (blk_cell BK510.out 1).trans rfl
      have hfz56_0 := fz_ BK510 0
      have hfz56_1 := fz_ BK510 1
      obtain ⟨Ao57, co57, eo57⟩ := Kd.R_slice HO_511001.out
      subst eo57
      go_wp2_with (first | ((with_reducible refine gate_callee (f := 54) rfl ?_); refine gm_ (some 45) Try.func54 #[.agg #[.int .i64 (wrap64 (a0_0 + a1_0)), .slice Ao57 x511001_2.length co57]] rfl ?_; (with_reducible refine (spec_laIf.calls k2 (wrap64 (a0_0 + a1_0)) (fun k_ => some k_ = (.slice Ao57 x511001_2.length co57 : Value).ownBlock) (.slice Ao57 x511001_2.length co57) x511001_2 t515 t516 t519 w _ ?side1 ?side2 A52.out).mono ?_); (case side1 => repeat (first | (with_reducible first | exact HB.out | apply below_alloc | apply pw_below_drewN | apply below_drew1 | refine below_set ?_ GE502.out | refine below_set ?_ GE503.out | refine below_set ?_ GE504.out | refine below_set ?_ GE510.out) | exact HB.out)); (case side2 => exact Kd.R_tight rfl HO_511001.out); rintro e w58 ⟨v517, rfl, ho0, hb, hkp⟩; refine ⟨_, rfl, ?_⟩; replace BK502 := a_ (blk_kept (bl_ BK502) hkp (fun hs_ => (fun e_ => (Kd.R_ne HO_511001.out BK502.out (by decide)) e_) hs_)); replace BK503 := a_ (blk_kept (bl_ BK503) hkp (fun hs_ => (fun e_ => (Kd.R_ne HO_511001.out BK503.out (by decide)) e_) hs_)); replace BK504 := a_ (blk_kept (bl_ BK504) hkp (fun hs_ => (fun e_ => (Kd.R_ne HO_511001.out BK504.out (by decide)) e_) hs_)); replace BK510 := a_ (blk_kept (bl_ BK510) hkp (fun hs_ => (fun e_ => (Kd.R_ne HO_511001.out BK510.out (by decide)) e_) hs_)); have HO518 := a_ (Kd.R_mono (ok' := fun k_ => True) ho0 (fun k_ hk_ => trivial)); replace HB := a_ (hb); clear HO_511001; (try clear hb); (try clear hkp); (try clear ho0); have hnb59 := NB504_502.out; have hnc59 := NB502_504.out; have hnb60 := NB504_503.out; have hnc60 := NB503_504.out; have hcz61_0 := cz_ (.int .i64 0) BK504 0; have hcz61_1 := cz_ (.slice none 0 0) BK504 1; have hfz61_0 := fz_ BK504 0; have hfz61_1 := fz_ BK504 1; obtain ⟨Ao62, co62, eo62⟩ := Kd.R_slice HO518.out; subst eo62))
      refine bodyPost_ret (results_ct rfl _ _ gb504 26 #[.int .i64 t515, .slice Ao62 t516.length co62] (0, 0) _ rfl (by (with_reducible repeat (first | refine blk_drewN ?_ _ | refine blk_drew ?_ | refine blk_alloc ?_ _)); refine blk_put (cs := #[.int .i64 t515, .slice none 0 0]) ?_ 1 _ rfl; (with_reducible repeat (first | refine blk_drewN ?_ _ | refine blk_drew ?_ | refine blk_alloc ?_ _)); refine blk_put (cs := #[.int .i64 0, .slice none 0 0]) ?_ 0 _ rfl; (with_reducible repeat (first | refine blk_drewN ?_ _ | refine blk_drew ?_ | refine blk_alloc ?_ _)); exact BK504.out) Try.underlying26 rfl (by kernel_rfl)) rfl ?_
      exact ⟨_, re_, by (with_reducible repeat (first | apply Kd.R_alloc | apply Kd.R_drewN | apply Kd.R_drew)); exact Kd.R_mono (Kd.R_far (p := ⟨gb504, 1, none⟩) (Kd.R_far (p := ⟨gb504, 0, none⟩) (Kd.R_types HO518.out BK504.out (by decide)) (fun _ hk => hk.2) (.int .i64 t515)) (fun _ hk => hk.2) (.slice Ao62 t516.length co62)) (fun _ hk => trivial), Bl_ HB⟩
     rw [if_pos c38] at H
     have c38b0 : decide (x30_2 < (l1_1.length : Int)) = true := decide_eq_true c38
     clear c38
     by_cases c39 : 0 ≤ x30_2
     rotate_left
     ·rw [if_neg c39] at H
      cases H
     rw [if_pos c39] at H
     have c39b0 : decide (0 ≤ x30_2) = true := decide_eq_true c39
     clear c39
     by_cases c40 : x30_2 < (l1_1.length : Int)
     rotate_left
     ·rw [if_neg c40] at H
      cases H
     rw [if_pos c40] at H
     have c40b0 : decide (x30_2 < (l1_1.length : Int)) = true := decide_eq_true c40
     clear c40
     by_cases c41 : x511001_2.length < 17592186044416
     rotate_left
     ·rw [if_neg c41] at H
      cases H
     rw [if_pos c41] at H
     have LMc41 := a_ c41
     clear c41
     obtain ⟨y512, hy512⟩ : ∃ y_ : List Int, y_ = (x511001_2 ++ [wrap64 (a0_0 + (rd l1_1 x30_2))]) := ⟨_, rfl⟩
     replace H : (spec_BesideLadders.l0 k2 l1_1 (l1_1.length : Int) (wrap64 (x30_2 + 1)) a0_0 l0_1 (wrap64 (a0_0 + a1_0)) y512) = some (r1, r2, r3) := by first | (rw [hy512]; with_reducible exact H) | (have H2_ := (Option.bind_some _ _).symm.trans H; rw [hy512]; with_reducible exact H2_) | (have H2_ := (Option.bind_some _ _).symm.trans H; with_reducible exact H2_) | with_reducible exact H | (rw [hy512]; exact H) | exact H
     have Ny512 := a_ hy512
     clear hy512
     have H' := a_ H
     clear H
     have p511 : 0 ≤ (x30_2 : Int) := od_
     have q511 : x30_2 < (l1_1.length : Int) := od_
     obtain ⟨ad511, e511, hx511_0⟩ := Kd.at_int HR1_1.out x30_2 p511 q511
     cases e511
     replace hx511_0 := (HB.out.cell (World.block_lt_of_cell? w _ hx511_0)).trans hx511_0
     replace p511 := eq_true p511
     replace q511 := eq_true q511
     have hnb42 := NB510_502.out
     have hnc42 := NB502_510.out
     have hnb43 := NB510_503.out
     have hnc43 := NB503_510.out
     have hnb44 := NB510_504.out
     have hnc44 := NB504_510.out
     have hcz45_0 : wr.cell? ⟨gb510, 0, none⟩ = some (.int .i64 (wrap64 (a0_0 + a1_0))) := (blk_cell BK510.out 0).trans rfl
     have hcz45_1 : wr.cell? ⟨gb510, 1, none⟩ = some (u511001) := (blk_cell BK510.out 1).trans rfl
     have hfz45_0 := fz_ BK510 0
     have hfz45_1 := fz_ BK510 1
     have hnb46 := NB502_503.out
     have hnc46 := NB503_502.out
     have hnb47 := NB502_504.out
     have hnc47 := NB504_502.out
     have hcz48_0 : wr.cell? ⟨gb502, 0, none⟩ = some (.int .i64 a0_0) := (blk_cell BK502.out 0).trans rfl
     have hcz48_1 : wr.cell? ⟨gb502, 1, none⟩ = some (.slice A0_1 l0_1.length c0_1) := (blk_cell BK502.out 1).trans rfl
     have hfz48_0 := fz_ BK502 0
     have hfz48_1 := fz_ BK502 1
     go_wp2_with (first | ((with_reducible refine gate_builtin (b := .append) (xs := #[.tmp 35, .tmp 40]) rfl ?_); at_builtin; refine Kd.R_append (Kd.int .i64) (w0 := w) w.heap.size rfl (.tmp 35) (.tmp 40) 24 3 (.int .i64 0) 8 rfl Try.underlying24 info3 rfl (by decide) (by omega) u511001 x511001_2 (wrap64 (a0_0 + (rd l1_1 x30_2))) [.int .i64 (wrap64 (a0_0 + (rd l1_1 x30_2)))] (fun _ => True) (fun _ => False) rfl rfl ?aP (fun _ hk => hk.elim) ?aF ?aO ?aB ?aS ?aL ?_; (case aP => exact rfl); (case aB => exact (Bl_ HB)); (case aF => exact (fun _ _ => trivial)); (case aO => exact (Rl_ HO_511001.out)); (case aS => exact (below_size (Bl_ HB))); (case aL => have := LMc41.out; omega); intro v513 w49 ho hb hg hat; rw [← Ny512.out] at ho; replace BK502 := a_ (blk_grown (g := gb502) (o := .cells #[.int .i64 a0_0, .slice A0_1 l0_1.length c0_1] 26 (0, 0)) (bl_ BK502) hg (Kd.R_ne HO_511001.out BK502.out (by decide))); replace BK503 := a_ (blk_grown (g := gb503) (o := .cells #[.int .i64 a1_0, .slice (some ad511) l1_1.length c1_1] 26 (0, 0)) (bl_ BK503) hg (Kd.R_ne HO_511001.out BK503.out (by decide))); replace BK504 := a_ (blk_grown (g := gb504) (o := .cells #[.int .i64 0, .slice none 0 0] 26 (0, 0)) (bl_ BK504) hg (Kd.R_ne HO_511001.out BK504.out (by decide))); replace BK510 := a_ (blk_grown (g := gb510) (o := .cells #[.int .i64 (wrap64 (a0_0 + a1_0)), u511001] 26 (0, 0)) (bl_ BK510) hg (Kd.R_ne HO_511001.out BK510.out (by decide))); replace HB := a_ (hb); have HO514 := a_ (ho); clear HO_511001; clear ho hb hg hat; obtain ⟨Ao50, co50, eo50⟩ := Kd.R_slice HO514.out; subst eo50; have hcz51_0 := cz_ (.int .i64 (wrap64 (a0_0 + a1_0))) BK510 0; have hcz51_1 := cz_ (u511001) BK510 1; have hfz51_0 := fz_ BK510 0; have hfz51_1 := fz_ BK510 1))
     go_roundg k2
     case measure => have := HJ2.out; have := HK2.out; omega
     case rel => exact ⟨(wrap64 (x30_2 + 1)), (y512), (.slice Ao50 y512.length co50), rs_, H', ⟨by have := HJ2.out; have := HK2.out; omega⟩, ⟨Rl_ (Kd.R_mono (Kd.R_far (p := ⟨gb510, 1, none⟩) (Kd.R_types HO514.out BK510.out (by decide)) (fun _ hk => hk.2) (.slice Ao50 y512.length co50)) (fun _ hk => trivial))⟩, ⟨by (with_reducible repeat (first | refine blk_drewN ?_ _ | refine blk_drew ?_ | refine blk_alloc ?_ _)); refine blk_far ?_ NB502_510.out _; (with_reducible repeat (first | refine blk_drewN ?_ _ | refine blk_drew ?_ | refine blk_alloc ?_ _)); exact BK502.out⟩, ⟨by (with_reducible repeat (first | refine blk_drewN ?_ _ | refine blk_drew ?_ | refine blk_alloc ?_ _)); refine blk_far ?_ NB503_510.out _; (with_reducible repeat (first | refine blk_drewN ?_ _ | refine blk_drew ?_ | refine blk_alloc ?_ _)); exact BK503.out⟩, ⟨by (with_reducible repeat (first | refine blk_drewN ?_ _ | refine blk_drew ?_ | refine blk_alloc ?_ _)); refine blk_far ?_ NB504_510.out _; (with_reducible repeat (first | refine blk_drewN ?_ _ | refine blk_drew ?_ | refine blk_alloc ?_ _)); exact BK504.out⟩, ⟨by (with_reducible repeat (first | refine blk_drewN ?_ _ | refine blk_drew ?_ | refine blk_alloc ?_ _)); refine blk_put (cs := #[.int .i64 (wrap64 (a0_0 + a1_0)), u511001]) ?_ 1 _ rfl; (with_reducible repeat (first | refine blk_drewN ?_ _ | refine blk_drew ?_ | refine blk_alloc ?_ _)); exact BK510.out⟩, ⟨Bl_ HB⟩⟩

/-! ### impl_isSplit: function 59 -/
def impl_isSplit.f (k : Nat) (a0_0 : Int) (l0_1 : List Int) (a1 : Int) : Option (Bool) := (slices_Contains_int_int.f k l0_1 (wrap64 (a1 - 1))).bind fun t521 => (some (!t521))
theorem impl_isSplit.mono : ∀ a0 a1 a2 k, LeO (impl_isSplit.f k a0 a1 a2) (impl_isSplit.f (k + 1) a0 a1 a2) := by
 intro a0 a1 a2 k
 unfold impl_isSplit.f
 repeat' first
  | (with_reducible exact slices_Contains_int_int.mono _ _ _)
  | (with_reducible exact LeO.refl _)
  | (with_reducible exact LeO.none _)
  | (with_reducible refine LeO.ite ?_ ?_)
  | (with_reducible refine LeO.bind ?_ (fun _ => ?_))
  | exact LeO.none _
  | refine LeO.ite ?_ ?_
  | refine LeO.bind ?_ (fun _ => ?_)
set_option maxHeartbeats 8000000 in
set_option maxRecDepth 100000 in
theorem impl_isSplit.calls (k : Nat) (a0_0 : Int) (A0_1 : Option Addr) (c0_1 : Nat) (l0_1 : List Int) (a1 : Int) (r : Bool) (w : World) (hr0_1 : Kd.C (Kd.int .i64) w A0_1 l0_1.length l0_1) (hc0_1 : l0_1.length ≤ c0_1) (h : impl_isSplit.f k a0_0 l0_1 a1 = some r) :
 Calls Try.prog 59 #[.agg #[.int .i64 a0_0, .slice A0_1 l0_1.length c0_1], .int .i64 a1] w fun e w' => e = .returned (.bool r) ∧ Below w.heap.size w w' := by
 have hu26 := Try.underlying26
 have HR0_1 := a_ hr0_1
 have HC0_1 := a_ hc0_1
 clear hr0_1 hc0_1
 have HB := a_ (Below.refl w.heap.size w)
 have H : ((slices_Contains_int_int.f k l0_1 (wrap64 (a1 - 1))).bind fun t521 => (some (!t521))) = some r := h
 clear h
 obtain ⟨t521, A3, H⟩ := ob_ H
 (try dsimp only at H)
 obtain rfl := Option.some.inj H
 go_enter Try.func59, Try.ntmps59
 go_wp2_with (first | ((with_reducible refine gate_dst (N := 2) rfl ?_); refine bx_ #[.int .i64 a0_0, .slice A0_1 l0_1.length c0_1] 26 ?_ 2; intro gb520 hg w4 hbox hb; have BK520 := a_ (hbox); have GW520 := gw_ HB hg; have GE520 := gw_ HB hg; replace HB := Bs_ HB hb; clear hb hbox hg; have hcz5_0 := cz_ (.int .i64 a0_0) BK520 0; have hcz5_1 := cz_ (.slice A0_1 l0_1.length c0_1) BK520 1; have hfz5_0 := fz_ BK520 0; have hfz5_1 := fz_ BK520 1) | ((with_reducible refine gate_callee (f := 42) rfl ?_); refine gm_ (some 9) Try.func42 #[.slice A0_1 l0_1.length c0_1, .int .i64 (wrap64 (a1 - 1))] rfl ?_; (with_reducible refine (slices_Contains_int_int.calls k _ _ l0_1 (wrap64 (a1 - 1)) t521 _ ?side1 ?side2 A3.out).mono ?_); (case side1 => exact Cl_ (Kd.C_below HR0_1.out HB.out)); (case side2 => exact HC0_1.out); rintro e w' ⟨rfl, ⟨nd, rfl⟩⟩; refine ⟨_, rfl, ?_⟩))
 go_ret
 exact ⟨re_, Bl_ HB⟩

/-! ### impl_IsSplit: function 26 -/
def impl_IsSplit.f (k : Nat) (a0_0 : Int) (l0_1 : List Int) (a1 : Int) : Option (Bool × Bool) := (impl_isLadder.f a0_0 l0_1).bind fun t523 => (if t523 = true then ((impl_between.f a1 1 (wrap64 (a0_0 - 1))).bind fun t524 => (if t524 = true then ((impl_isSplit.f k a0_0 l0_1 a1).bind fun t525 => (some (t525, true))) else (some (false, false)))) else (some (false, false)))
theorem impl_IsSplit.mono : ∀ a0 a1 a2 k, LeO (impl_IsSplit.f k a0 a1 a2) (impl_IsSplit.f (k + 1) a0 a1 a2) := by
 intro a0 a1 a2 k
 unfold impl_IsSplit.f
 repeat' first
  | (with_reducible exact impl_isSplit.mono _ _ _ _)
  | (with_reducible exact LeO.refl _)
  | (with_reducible exact LeO.none _)
  | (with_reducible refine LeO.ite ?_ ?_)
  | (with_reducible refine LeO.bind ?_ (fun _ => ?_))
  | exact LeO.none _
  | refine LeO.ite ?_ ?_
  | refine LeO.bind ?_ (fun _ => ?_)
set_option maxHeartbeats 8000000 in
set_option maxRecDepth 100000 in
theorem impl_IsSplit.calls (k : Nat) (a0_0 : Int) (A0_1 : Option Addr) (c0_1 : Nat) (l0_1 : List Int) (a1 : Int) (r1 : Bool) (r2 : Bool) (w : World) (hr0_1 : Kd.C (Kd.int .i64) w A0_1 l0_1.length l0_1) (hc0_1 : l0_1.length ≤ c0_1) (h : impl_IsSplit.f k a0_0 l0_1 a1 = some (r1, r2)) :
 Calls Try.prog 26 #[.agg #[.int .i64 a0_0, .slice A0_1 l0_1.length c0_1], .int .i64 a1] w fun e w' => e = .returned (.tuple #[.bool r1, .bool r2]) ∧ Below w.heap.size w w' := by
 have hu26 := Try.underlying26
 have HR0_1 := a_ hr0_1
 have HC0_1 := a_ hc0_1
 clear hr0_1 hc0_1
 have HB := a_ (Below.refl w.heap.size w)
 have H : ((impl_isLadder.f a0_0 l0_1).bind fun t523 => (if t523 = true then ((impl_between.f a1 1 (wrap64 (a0_0 - 1))).bind fun t524 => (if t524 = true then ((impl_isSplit.f k a0_0 l0_1 a1).bind fun t525 => (some (t525, true))) else (some (false, false)))) else (some (false, false)))) = some (r1, r2) := h
 clear h
 obtain ⟨t523, A3, H⟩ := ob_ H
 (try dsimp only at H)
 by_cases c4 : t523 = true
 rotate_left
 ·replace c4 := Bool.eq_false_iff.mpr c4
  subst c4
  rw [if_neg (show ¬ (false = true) by decide)] at H
  simp only [Option.some.injEq, Prod.mk.injEq] at H
  obtain ⟨rfl, rfl⟩ := H
  go_enter Try.func26, Try.ntmps26
  go_wp2_with (first | ((with_reducible refine gate_dst (N := 2) rfl ?_); refine bx_ #[.int .i64 a0_0, .slice A0_1 l0_1.length c0_1] 26 ?_ 2; intro gb522 hg w17 hbox hb; have BK522 := a_ (hbox); have GW522 := gw_ HB hg; have GE522 := gw_ HB hg; replace HB := Bs_ HB hb; clear hb hbox hg; have hcz18_0 := cz_ (.int .i64 a0_0) BK522 0; have hcz18_1 := cz_ (.slice A0_1 l0_1.length c0_1) BK522 1; have hfz18_0 := fz_ BK522 0; have hfz18_1 := fz_ BK522 1) | ((with_reducible refine gate_callee (f := 40) rfl ?_); refine gm_ (some 7) Try.func40 #[.agg #[.int .i64 a0_0, .slice A0_1 l0_1.length c0_1]] rfl ?_; (with_reducible refine (impl_isLadder.calls a0_0 _ _ l0_1 false _ ?side1 ?side2 A3.out).mono ?_); (case side1 => exact Cl_ (Kd.C_below HR0_1.out HB.out)); (case side2 => exact HC0_1.out); rintro e w19 ⟨rfl, hb⟩; refine ⟨_, rfl, ?_⟩; replace BK522 := blkB_ BK522 hb; replace HB := Bs_ HB hb; (try clear hb); (try clear hb2); (try clear hk); (try clear hi)))
  go_ret2
  exact ⟨re_, Bl_ HB⟩
 subst c4
 rw [if_pos rfl] at H
 obtain ⟨t524, A5, H⟩ := ob_ H
 (try dsimp only at H)
 by_cases c6 : t524 = true
 rotate_left
 ·replace c6 := Bool.eq_false_iff.mpr c6
  subst c6
  rw [if_neg (show ¬ (false = true) by decide)] at H
  simp only [Option.some.injEq, Prod.mk.injEq] at H
  obtain ⟨rfl, rfl⟩ := H
  go_enter Try.func26, Try.ntmps26
  go_wp2_with (first | ((with_reducible refine gate_dst (N := 2) rfl ?_); refine bx_ #[.int .i64 a0_0, .slice A0_1 l0_1.length c0_1] 26 ?_ 2; intro gb522 hg w13 hbox hb; have BK522 := a_ (hbox); have GW522 := gw_ HB hg; have GE522 := gw_ HB hg; replace HB := Bs_ HB hb; clear hb hbox hg; have hcz14_0 := cz_ (.int .i64 a0_0) BK522 0; have hcz14_1 := cz_ (.slice A0_1 l0_1.length c0_1) BK522 1; have hfz14_0 := fz_ BK522 0; have hfz14_1 := fz_ BK522 1) | ((with_reducible refine gate_callee (f := 40) rfl ?_); refine gm_ (some 7) Try.func40 #[.agg #[.int .i64 a0_0, .slice A0_1 l0_1.length c0_1]] rfl ?_; (with_reducible refine (impl_isLadder.calls a0_0 _ _ l0_1 true _ ?side1 ?side2 A3.out).mono ?_); (case side1 => exact Cl_ (Kd.C_below HR0_1.out HB.out)); (case side2 => exact HC0_1.out); rintro e w15 ⟨rfl, hb⟩; refine ⟨_, rfl, ?_⟩; replace BK522 := blkB_ BK522 hb; replace HB := Bs_ HB hb; (try clear hb); (try clear hb2); (try clear hk); (try clear hi); have hcz16_0 := cz_ (.int .i64 a0_0) BK522 0; have hcz16_1 := cz_ (.slice A0_1 l0_1.length c0_1) BK522 1; have hfz16_0 := fz_ BK522 0; have hfz16_1 := fz_ BK522 1) | (go_at_call 51; (with_reducible refine (impl_between.calls a1 1 (wrap64 (a0_0 - 1)) false _ A5.out).mono ?_); rintro e w' ⟨rfl, ⟨nd, rfl⟩⟩))
  go_ret2
  exact ⟨re_, Bl_ HB⟩
 subst c6
 rw [if_pos rfl] at H
 obtain ⟨t525, A7, H⟩ := ob_ H
 (try dsimp only at H)
 simp only [Option.some.injEq, Prod.mk.injEq] at H
 obtain ⟨rfl, rfl⟩ := H
 go_enter Try.func26, Try.ntmps26
 go_wp2_with (first | ((with_reducible refine gate_dst (N := 2) rfl ?_); refine bx_ #[.int .i64 a0_0, .slice A0_1 l0_1.length c0_1] 26 ?_ 2; intro gb522 hg w8 hbox hb; have BK522 := a_ (hbox); have GW522 := gw_ HB hg; have GE522 := gw_ HB hg; replace HB := Bs_ HB hb; clear hb hbox hg; have hcz9_0 := cz_ (.int .i64 a0_0) BK522 0; have hcz9_1 := cz_ (.slice A0_1 l0_1.length c0_1) BK522 1; have hfz9_0 := fz_ BK522 0; have hfz9_1 := fz_ BK522 1) | ((with_reducible refine gate_callee (f := 40) rfl ?_); refine gm_ (some 7) Try.func40 #[.agg #[.int .i64 a0_0, .slice A0_1 l0_1.length c0_1]] rfl ?_; (with_reducible refine (impl_isLadder.calls a0_0 _ _ l0_1 true _ ?side1 ?side2 A3.out).mono ?_); (case side1 => exact Cl_ (Kd.C_below HR0_1.out HB.out)); (case side2 => exact HC0_1.out); rintro e w10 ⟨rfl, hb⟩; refine ⟨_, rfl, ?_⟩; replace BK522 := blkB_ BK522 hb; replace HB := Bs_ HB hb; (try clear hb); (try clear hb2); (try clear hk); (try clear hi); have hcz11_0 := cz_ (.int .i64 a0_0) BK522 0; have hcz11_1 := cz_ (.slice A0_1 l0_1.length c0_1) BK522 1; have hfz11_0 := fz_ BK522 0; have hfz11_1 := fz_ BK522 1) | (go_at_call 51; (with_reducible refine (impl_between.calls a1 1 (wrap64 (a0_0 - 1)) true _ A5.out).mono ?_); rintro e w' ⟨rfl, ⟨nd, rfl⟩⟩) | ((with_reducible refine gate_callee (f := 59) rfl ?_); refine gm_ (some 19) Try.func59 #[.agg #[.int .i64 a0_0, .slice A0_1 l0_1.length c0_1], .int .i64 a1] rfl ?_; (with_reducible refine (impl_isSplit.calls k a0_0 _ _ l0_1 a1 t525 _ ?side1 ?side2 A7.out).mono ?_); (case side1 => exact Cl_ (Kd.C_below HR0_1.out (Bl_ HB))); (case side2 => exact HC0_1.out); rintro e w12 ⟨rfl, hb⟩; refine ⟨_, rfl, ?_⟩; replace BK522 := blkB_ BK522 hb; replace HB := Bs_ HB hb; (try clear hb); (try clear hb2); (try clear hk); (try clear hi)))
 go_ret2
 exact ⟨re_, Bl_ HB⟩

/-! ### spec_DrawDoubleLadder: function 27 -/
def spec_DrawDoubleLadder.f (k : Nat) (l0 : List Int) : Option (Int × List Int) := (spec_l1Cur_one.f l0 0 0 6).bind fun bt528 => (if bt528.1 = true then ((spec_l1Cur_ladder.f k l0 bt528.2.1 bt528.2.2).bind fun bt531 => (some (bt531.1, bt531.2.1))) else ((spec_l1Cur_sureLadder.f k l0 bt528.2.1 bt528.2.2 4 16).bind fun bt537 => (some (bt537.1, bt537.2.1))))
theorem spec_DrawDoubleLadder.mono : ∀ a0 k, LeO (spec_DrawDoubleLadder.f k a0) (spec_DrawDoubleLadder.f (k + 1) a0) := by
 intro a0 k
 unfold spec_DrawDoubleLadder.f
 repeat' first
  | (with_reducible exact spec_l1Cur_ladder.mono _ _ _ _)
  | (with_reducible exact spec_l1Cur_sureLadder.mono _ _ _ _ _ _)
  | (with_reducible exact LeO.refl _)
  | (with_reducible exact LeO.none _)
  | (with_reducible refine LeO.ite ?_ ?_)
  | (with_reducible refine LeO.bind ?_ (fun _ => ?_))
  | exact LeO.none _
  | refine LeO.ite ?_ ?_
  | refine LeO.bind ?_ (fun _ => ?_)
set_option maxHeartbeats 8000000 in
set_option maxRecDepth 100000 in
theorem spec_DrawDoubleLadder.calls (k : Nat) (A0 : Option Addr) (c0 : Nat) (l0 : List Int) (r1 : Int) (r2 : List Int) (w : World) (hr0 : Kd.C (Kd.int .u8) w A0 l0.length l0) (hc0 : l0.length ≤ c0) (h : spec_DrawDoubleLadder.f k l0 = some (r1, r2)) :
 Calls Try.prog 27 #[.slice A0 l0.length c0] w fun e w' => ∃ v1_ : Value, e = .returned (.agg #[.int .i64 r1, v1_]) ∧ Kd.R (Kd.int .i64) 3 w' w.heap.size (fun _ => True) v1_ r2 ∧ Below w.heap.size w w' := by
 have hu26 := Try.underlying26
 have hu63 := Try.underlying63
 have HR0 := a_ hr0
 have HC0 := a_ hc0
 clear hr0 hc0
 have HB := a_ (Below.refl w.heap.size w)
 have H : ((spec_l1Cur_one.f l0 0 0 6).bind fun bt528 => (if bt528.1 = true then ((spec_l1Cur_ladder.f k l0 bt528.2.1 bt528.2.2).bind fun bt531 => (some (bt531.1, bt531.2.1))) else ((spec_l1Cur_sureLadder.f k l0 bt528.2.1 bt528.2.2 4 16).bind fun bt537 => (some (bt537.1, bt537.2.1))))) = some (r1, r2) := h
 clear h
 obtain ⟨⟨t528, t529, t530⟩, A2, H⟩ := ob_ H
 (try dsimp only at H)
 by_cases c3 : t528 = true
 ·subst c3
  rw [if_pos rfl] at H
  obtain ⟨⟨t531, t532, t535, t536⟩, A4, H⟩ := ob_ H
  (try dsimp only at H)
  simp only [Option.some.injEq, Prod.mk.injEq] at H
  obtain ⟨rfl, rfl⟩ := H
  go_enter Try.func27, Try.ntmps27
  go_wp2_with (first | ((with_reducible refine gate_dst (N := 2) rfl ?_); refine bx_ #[.int .i64 0, .slice none 0 0] 26 ?_ 2; intro gb526 hg w5 hbox hb; have BK526 := a_ (hbox); have GW526 := gw_ HB hg; have GE526 := gw_ HB hg; replace HB := Bs_ HB hb; clear hb hbox hg) | ((with_reducible refine gate_dst (N := 6) rfl ?_); refine bx_ #[.slice A0 l0.length c0, .int .i64 0, .int .u64 0] 63 ?_ 6; intro gb527 hg w6 hbox hb; have HI527 := a_ ((⟨_, _, hbox, (by rw [hg]; exact (below_size (Bl_ HB)) : w.heap.size ≤ gb527), HR0.out⟩ : IsS63 w w6 gb527 l0 0 0)); have GW527 := gw_ HB hg; have GE527 := gw_ HB hg; replace HB := Bs_ HB hb; have NB526_527 := nbl_ BK526 hg; have NB527_526 := nbg_ BK526 hg; replace BK526 := blkB_ BK526 hb; clear hb hbox hg) | ((with_reducible refine gate_callee (f := 60) rfl ?_); refine gm_ (some 8) Try.func60 #[.pointer (some ⟨gb527, 0, none⟩), .int .i64 6] rfl ?_; (with_reducible refine (spec_l1Cur_one.calls gb527 l0 0 0 6 true t529 t530 w _ ?side1 ?side2 A2.out).mono ?_); (case side1 => repeat (first | (with_reducible first | exact HI527.out | apply IsS63.alloc | apply IsS63.drewN | apply IsS63.drew | apply IsS63.set_1 | apply IsS63.set_2 | refine IsS63.far ?_ NB527_526.out _) | exact HI527.out)); (case side2 => repeat (first | (with_reducible first | exact HB.out | apply below_alloc | apply pw_below_drewN | apply below_drew1 | refine below_set ?_ (IsS63.ge HI527.out) | refine below_set ?_ GE526.out) | exact HB.out)); rintro e w7 ⟨rfl, hi, hb, hk⟩; refine ⟨_, rfl, ?_⟩; replace BK526 := a_ (KeepBut.blk hk (g' := gb526) (o := .cells #[.int .i64 0, .slice none 0 0] 26 (0, 0)) (bl_ BK526) NB526_527.out (by simp)); replace HB := a_ (hb); replace HI527 := a_ (hi); (try clear hb); (try clear hb2); (try clear hk); (try clear hi)) | ((with_reducible refine gate_callee (f := 43) rfl ?_); refine gm_ (some 10) Try.func43 #[.pointer (some ⟨gb527, 0, none⟩)] rfl ?_; (with_reducible refine (spec_l1Cur_ladder.calls k gb527 l0 t529 t530 t531 t532 t535 t536 w _ ?side1 ?side2 A4.out).mono ?_); (case side1 => repeat (first | (with_reducible first | exact HI527.out | apply IsS63.alloc | apply IsS63.drewN | apply IsS63.drew | apply IsS63.set_1 | apply IsS63.set_2 | refine IsS63.far ?_ NB527_526.out _) | exact HI527.out)); (case side2 => repeat (first | (with_reducible first | exact HB.out | apply below_alloc | apply pw_below_drewN | apply below_drew1 | refine below_set ?_ (IsS63.ge HI527.out) | refine below_set ?_ GE526.out) | exact HB.out)); rintro e w8 ⟨v533, rfl, ho0, hi, hb, hk⟩; refine ⟨_, rfl, ?_⟩; replace BK526 := a_ (KeepBut.blk hk (g' := gb526) (o := .cells #[.int .i64 0, .slice none 0 0] 26 (0, 0)) (bl_ BK526) NB526_527.out (by simp)); have HO534 := a_ (Kd.R_lower ho0 (below_size (by repeat (first | (with_reducible first | exact HB.out | apply below_alloc | apply pw_below_drewN | apply below_drew1 | refine below_set ?_ (IsS63.ge HI527.out) | refine below_set ?_ GE526.out) | exact HB.out)))); replace HB := a_ (hb); replace HI527 := a_ (hi); (try clear hb); (try clear hb2); (try clear hk); (try clear hi); (try clear ho0); have hnb9 := NB526_527.out; have hnc9 := NB527_526.out; have hcz10_0 := cz_ (.int .i64 0) BK526 0; have hcz10_1 := cz_ (.slice none 0 0) BK526 1; have hfz10_0 := fz_ BK526 0; have hfz10_1 := fz_ BK526 1; obtain ⟨Ao11, co11, eo11⟩ := Kd.R_slice HO534.out; subst eo11))
  refine bodyPost_ret (results_cell_row rfl _ _ gb526 26 #[.int .i64 t531, .slice Ao11 t532.length co11] (0, 0) _ rfl (by (with_reducible repeat (first | refine blk_drewN ?_ _ | refine blk_drew ?_ | refine blk_alloc ?_ _)); refine blk_put (cs := #[.int .i64 t531, .slice none 0 0]) ?_ 1 _ rfl; (with_reducible repeat (first | refine blk_drewN ?_ _ | refine blk_drew ?_ | refine blk_alloc ?_ _)); refine blk_put (cs := #[.int .i64 0, .slice none 0 0]) ?_ 0 _ rfl; (with_reducible repeat (first | refine blk_drewN ?_ _ | refine blk_drew ?_ | refine blk_alloc ?_ _)); exact BK526.out) Try.underlying26 rfl (by kernel_rfl)) rfl ?_
  exact ⟨_, re_, by (with_reducible repeat (first | apply Kd.R_alloc | apply Kd.R_drewN | apply Kd.R_drew)); exact Kd.R_mono (Kd.R_far (p := ⟨gb526, 1, none⟩) (Kd.R_far (p := ⟨gb526, 0, none⟩) (Kd.R_types HO534.out BK526.out (by decide)) (fun _ hk => hk.2) (.int .i64 t531)) (fun _ hk => hk.2) (.slice Ao11 t532.length co11)) (fun _ hk => trivial), by repeat (first | (with_reducible first | exact HB.out | apply below_alloc | apply pw_below_drewN | apply below_drew1 | refine below_set ?_ (IsS63.ge HI527.out) | refine below_set ?_ GE526.out) | exact HB.out)⟩
 replace c3 := Bool.eq_false_iff.mpr c3
 subst c3
 rw [if_neg (show ¬ (false = true) by decide)] at H
 obtain ⟨⟨t537, t538, t541, t542⟩, A12, H⟩ := ob_ H
 (try dsimp only at H)
 simp only [Option.some.injEq, Prod.mk.injEq] at H
 obtain ⟨rfl, rfl⟩ := H
 go_enter Try.func27, Try.ntmps27
 go_wp2_with (first | ((with_reducible refine gate_dst (N := 2) rfl ?_); refine bx_ #[.int .i64 0, .slice none 0 0] 26 ?_ 2; intro gb526 hg w13 hbox hb; have BK526 := a_ (hbox); have GW526 := gw_ HB hg; have GE526 := gw_ HB hg; replace HB := Bs_ HB hb; clear hb hbox hg) | ((with_reducible refine gate_dst (N := 6) rfl ?_); refine bx_ #[.slice A0 l0.length c0, .int .i64 0, .int .u64 0] 63 ?_ 6; intro gb527 hg w14 hbox hb; have HI527 := a_ ((⟨_, _, hbox, (by rw [hg]; exact (below_size (Bl_ HB)) : w.heap.size ≤ gb527), HR0.out⟩ : IsS63 w w14 gb527 l0 0 0)); have GW527 := gw_ HB hg; have GE527 := gw_ HB hg; replace HB := Bs_ HB hb; have NB526_527 := nbl_ BK526 hg; have NB527_526 := nbg_ BK526 hg; replace BK526 := blkB_ BK526 hb; clear hb hbox hg) | ((with_reducible refine gate_callee (f := 60) rfl ?_); refine gm_ (some 8) Try.func60 #[.pointer (some ⟨gb527, 0, none⟩), .int .i64 6] rfl ?_; (with_reducible refine (spec_l1Cur_one.calls gb527 l0 0 0 6 false t529 t530 w _ ?side1 ?side2 A2.out).mono ?_); (case side1 => repeat (first | (with_reducible first | exact HI527.out | apply IsS63.alloc | apply IsS63.drewN | apply IsS63.drew | apply IsS63.set_1 | apply IsS63.set_2 | refine IsS63.far ?_ NB527_526.out _) | exact HI527.out)); (case side2 => repeat (first | (with_reducible first | exact HB.out | apply below_alloc | apply pw_below_drewN | apply below_drew1 | refine below_set ?_ (IsS63.ge HI527.out) | refine below_set ?_ GE526.out) | exact HB.out)); rintro e w15 ⟨rfl, hi, hb, hk⟩; refine ⟨_, rfl, ?_⟩; replace BK526 := a_ (KeepBut.blk hk (g' := gb526) (o := .cells #[.int .i64 0, .slice none 0 0] 26 (0, 0)) (bl_ BK526) NB526_527.out (by simp)); replace HB := a_ (hb); replace HI527 := a_ (hi); (try clear hb); (try clear hb2); (try clear hk); (try clear hi)) | ((with_reducible refine gate_callee (f := 58) rfl ?_); refine gm_ (some 12) Try.func58 #[.pointer (some ⟨gb527, 0, none⟩), .int .i64 4, .int .i64 16] rfl ?_; (with_reducible refine (spec_l1Cur_sureLadder.calls k gb527 l0 t529 t530 4 16 t537 t538 t541 t542 w _ ?side1 ?side2 A12.out).mono ?_); (case side1 => repeat (first | (with_reducible first | exact HI527.out | apply IsS63.alloc | apply IsS63.drewN | apply IsS63.drew | apply IsS63.set_1 | apply IsS63.set_2 | refine IsS63.far ?_ NB527_526.out _) | exact HI527.out)); (case side2 => repeat (first | (with_reducible first | exact HB.out | apply below_alloc | apply pw_below_drewN | apply below_drew1 | refine below_set ?_ (IsS63.ge HI527.out) | refine below_set ?_ GE526.out) | exact HB.out)); rintro e w16 ⟨v539, rfl, ho0, hi, hb, hk⟩; refine ⟨_, rfl, ?_⟩; replace BK526 := a_ (KeepBut.blk hk (g' := gb526) (o := .cells #[.int .i64 0, .slice none 0 0] 26 (0, 0)) (bl_ BK526) NB526_527.out (by simp)); have HO540 := a_ (Kd.R_lower ho0 (below_size (by repeat (first | (with_reducible first | exact HB.out | apply below_alloc | apply pw_below_drewN | apply below_drew1 | refine below_set ?_ (IsS63.ge HI527.out) | refine below_set ?_ GE526.out) | exact HB.out)))); replace HB := a_ (hb); replace HI527 := a_ (hi); (try clear hb); (try clear hb2); (try clear hk); (try clear hi); (try clear ho0); have hnb17 := NB526_527.out; have hnc17 := NB527_526.out; have hcz18_0 := cz_ (.int .i64 0) BK526 0; have hcz18_1 := cz_ (.slice none 0 0) BK526 1; have hfz18_0 := fz_ BK526 0; have hfz18_1 := fz_ BK526 1; obtain ⟨Ao19, co19, eo19⟩ := Kd.R_slice HO540.out; subst eo19))
 refine bodyPost_ret (results_cell_row rfl _ _ gb526 26 #[.int .i64 t537, .slice Ao19 t538.length co19] (0, 0) _ rfl (by (with_reducible repeat (first | refine blk_drewN ?_ _ | refine blk_drew ?_ | refine blk_alloc ?_ _)); refine blk_put (cs := #[.int .i64 t537, .slice none 0 0]) ?_ 1 _ rfl; (with_reducible repeat (first | refine blk_drewN ?_ _ | refine blk_drew ?_ | refine blk_alloc ?_ _)); refine blk_put (cs := #[.int .i64 0, .slice none 0 0]) ?_ 0 _ rfl; (with_reducible repeat (first | refine blk_drewN ?_ _ | refine blk_drew ?_ | refine blk_alloc ?_ _)); exact BK526.out) Try.underlying26 rfl (by kernel_rfl)) rfl ?_
 exact ⟨_, re_, by (with_reducible repeat (first | apply Kd.R_alloc | apply Kd.R_drewN | apply Kd.R_drew)); exact Kd.R_mono (Kd.R_far (p := ⟨gb526, 1, none⟩) (Kd.R_far (p := ⟨gb526, 0, none⟩) (Kd.R_types HO540.out BK526.out (by decide)) (fun _ hk => hk.2) (.int .i64 t537)) (fun _ hk => hk.2) (.slice Ao19 t538.length co19)) (fun _ hk => trivial), by repeat (first | (with_reducible first | exact HB.out | apply below_alloc | apply pw_below_drewN | apply below_drew1 | refine below_set ?_ (IsS63.ge HI527.out) | refine below_set ?_ GE526.out) | exact HB.out)⟩

/-! ### impl_DoubleLadder: function 28 -/
def impl_DoubleLadder.l0 : Nat → List Int → Int → Int → Int → List Int → Option (Int × List Int × Bool)
 | 0, _, _, _, _, _ => none
 | k + 1, x16, x17, x18, x547000, x547001 => if x18 < x17 then (if 0 ≤ x18 then (if x18 < (x16.length : Int) then ((some (([wrap64 ((wrap64 (2 * (rd x16 x18))) + 1), wrap64 (2 * (rd x16 x18)), wrap64 ((wrap64 (2 * (rd x16 x18))) + 2), wrap64 ((wrap64 (2 * (rd x16 x18))) + 1)] : List Int) : List Int)).bind fun y548 => (if x547001.length + y548.length < 17592186044416 then (impl_DoubleLadder.l0 k x16 x17 (wrap64 (x18 + 1)) x547000 (x547001 ++ y548)) else (none))) else (none)) else (none)) else ((impl_checked.f x547000 x547001).bind fun bt554 => (some (bt554.1, bt554.2.1, bt554.2.2)))
def impl_DoubleLadder.f (k : Nat) (a0_0 : Int) (l0_1 : List Int) : Option (Int × List Int × Bool) := (impl_isLadder.f a0_0 l0_1).bind fun t545 => (if t545 = true then (impl_DoubleLadder.l0 k l0_1 (l0_1.length : Int) 0 (wrap64 (2 * a0_0)) ([] : List Int)) else (some (0, ([] : List Int), false)))
theorem impl_DoubleLadder.mono_l : ∀ k, (∀ y0 y1 y2 y3 y4, LeO (impl_DoubleLadder.l0 k y0 y1 y2 y3 y4) (impl_DoubleLadder.l0 (k + 1) y0 y1 y2 y3 y4))
 | 0 => fun _ _ _ _ _ r h => by simp [impl_DoubleLadder.l0] at h
 | k + 1 => by
  have ih0 := impl_DoubleLadder.mono_l k
  ·intro y0 y1 y2 y3 y4
   unfold impl_DoubleLadder.l0
   repeat' first
   | (with_reducible exact ih0 _ _ _ _ _)
   | (with_reducible exact LeO.refl _)
   | (with_reducible exact LeO.none _)
   | (with_reducible refine LeO.ite ?_ ?_)
   | (with_reducible refine LeO.bind ?_ (fun _ => ?_))
   | exact LeO.none _
   | refine LeO.ite ?_ ?_
   | refine LeO.bind ?_ (fun _ => ?_)
theorem impl_DoubleLadder.mono : ∀ a0 a1 k, LeO (impl_DoubleLadder.f k a0 a1) (impl_DoubleLadder.f (k + 1) a0 a1) := by
 intro a0 a1 k
 have ih0 := impl_DoubleLadder.mono_l k
 unfold impl_DoubleLadder.f
 repeat' first
  | (with_reducible exact ih0 _ _ _ _ _)
  | (with_reducible exact LeO.refl _)
  | (with_reducible exact LeO.none _)
  | (with_reducible refine LeO.ite ?_ ?_)
  | (with_reducible refine LeO.bind ?_ (fun _ => ?_))
  | exact LeO.none _
  | refine LeO.ite ?_ ?_
  | refine LeO.bind ?_ (fun _ => ?_)
set_option maxHeartbeats 8000000 in
set_option maxRecDepth 100000 in
theorem impl_DoubleLadder.calls (k : Nat) (a0_0 : Int) (A0_1 : Option Addr) (c0_1 : Nat) (l0_1 : List Int) (r1 : Int) (r2 : List Int) (r3 : Bool) (w : World) (hr0_1 : Kd.C (Kd.int .i64) w A0_1 l0_1.length l0_1) (hc0_1 : l0_1.length ≤ c0_1) (h : impl_DoubleLadder.f k a0_0 l0_1 = some (r1, r2, r3)) :
 Calls Try.prog 28 #[.agg #[.int .i64 a0_0, .slice A0_1 l0_1.length c0_1]] w fun e w' => ∃ v1_ : Value, e = .returned (.tuple #[.agg #[.int .i64 r1, v1_], .bool r3]) ∧ Kd.R (Kd.int .i64) 3 w' w.heap.size (fun _ => True) v1_ r2 ∧ Below w.heap.size w w' := by
 have hu26 := Try.underlying26
 have HR0_1 := a_ hr0_1
 have HC0_1 := a_ hc0_1
 clear hr0_1 hc0_1
 have HB := a_ (Below.refl w.heap.size w)
 have H : ((impl_isLadder.f a0_0 l0_1).bind fun t545 => (if t545 = true then (impl_DoubleLadder.l0 k l0_1 (l0_1.length : Int) 0 (wrap64 (2 * a0_0)) ([] : List Int)) else (some (0, ([] : List Int), false)))) = some (r1, r2, r3) := h
 clear h
 obtain ⟨t545, A2, H⟩ := ob_ H
 (try dsimp only at H)
 by_cases c3 : t545 = true
 rotate_left
 ·replace c3 := Bool.eq_false_iff.mpr c3
  subst c3
  rw [if_neg (show ¬ (false = true) by decide)] at H
  simp only [Option.some.injEq, Prod.mk.injEq] at H
  obtain ⟨rfl, rfl, rfl⟩ := H
  go_enter Try.func28, Try.ntmps28
  go_wp2_with (first | ((with_reducible refine gate_dst (N := 1) rfl ?_); refine bx_ #[.int .i64 a0_0, .slice A0_1 l0_1.length c0_1] 26 ?_ 1; intro gb543 hg w37 hbox hb; have BK543 := a_ (hbox); have GW543 := gw_ HB hg; have GE543 := gw_ HB hg; replace HB := Bs_ HB hb; clear hb hbox hg) | ((with_reducible refine gate_dst (N := 2) rfl ?_); refine bx_ #[.int .i64 0, .slice none 0 0] 26 ?_ 2; intro gb544 hg w38 hbox hb; have BK544 := a_ (hbox); have GW544 := gw_ HB hg; have GE544 := gw_ HB hg; replace HB := Bs_ HB hb; have NB543_544 := nbl_ BK543 hg; have NB544_543 := nbg_ BK543 hg; replace BK543 := blkB_ BK543 hb; clear hb hbox hg; have hnb39 := NB543_544.out; have hnc39 := NB544_543.out; have hcz40_0 := cz_ (.int .i64 a0_0) BK543 0; have hcz40_1 := cz_ (.slice A0_1 l0_1.length c0_1) BK543 1; have hfz40_0 := fz_ BK543 0; have hfz40_1 := fz_ BK543 1) | ((with_reducible refine gate_callee (f := 40) rfl ?_); refine gm_ (some 8) Try.func40 #[.agg #[.int .i64 a0_0, .slice A0_1 l0_1.length c0_1]] rfl ?_; (with_reducible refine (impl_isLadder.calls a0_0 _ _ l0_1 false _ ?side1 ?side2 A2.out).mono ?_); (case side1 => exact Cl_ (Kd.C_below HR0_1.out HB.out)); (case side2 => exact HC0_1.out); rintro e w41 ⟨rfl, hb⟩; refine ⟨_, rfl, ?_⟩; replace BK543 := blkB_ BK543 hb; replace BK544 := blkB_ BK544 hb; replace HB := Bs_ HB hb; (try clear hb); (try clear hb2); (try clear hk); (try clear hi); have hcz42_0 := cz_ (.int .i64 0) BK544 0; have hcz42_1 := cz_ (.slice none 0 0) BK544 1; have hfz42_0 := fz_ BK544 0; have hfz42_1 := fz_ BK544 1))
  refine bodyPost_ret (results_ct rfl _ _ gb544 26 #[.int .i64 0, .slice none 0 0] (0, 0) _ rfl (by (with_reducible repeat (first | refine blk_drewN ?_ _ | refine blk_drew ?_ | refine blk_alloc ?_ _)); refine blk_put (cs := #[.int .i64 0, .slice none 0 0]) ?_ 1 _ rfl; (with_reducible repeat (first | refine blk_drewN ?_ _ | refine blk_drew ?_ | refine blk_alloc ?_ _)); refine blk_put (cs := #[.int .i64 0, .slice none 0 0]) ?_ 0 _ rfl; (with_reducible repeat (first | refine blk_drewN ?_ _ | refine blk_drew ?_ | refine blk_alloc ?_ _)); exact BK544.out) Try.underlying26 rfl (by kernel_rfl)) rfl ?_
  exact ⟨_, re_, by first | exact Kd.R_nil _ _ _ _ _ | exact Kd.N_nil _ _ _ _ _ | exact Kd.V_nil _ _ _ _ _ | exact Kd.Q_nil _ _ _ _ _ | exact Kd.S_nil _ _ _ _ _, Bl_ HB⟩
 subst c3
 rw [if_pos rfl] at H
 have H' := a_ H
 clear H
 go_enter Try.func28, Try.ntmps28
 go_wp2_with (first | ((with_reducible refine gate_dst (N := 1) rfl ?_); refine bx_ #[.int .i64 a0_0, .slice A0_1 l0_1.length c0_1] 26 ?_ 1; intro gb543 hg w4 hbox hb; have BK543 := a_ (hbox); have GW543 := gw_ HB hg; have GE543 := gw_ HB hg; replace HB := Bs_ HB hb; clear hb hbox hg) | ((with_reducible refine gate_dst (N := 2) rfl ?_); refine bx_ #[.int .i64 0, .slice none 0 0] 26 ?_ 2; intro gb544 hg w5 hbox hb; have BK544 := a_ (hbox); have GW544 := gw_ HB hg; have GE544 := gw_ HB hg; replace HB := Bs_ HB hb; have NB543_544 := nbl_ BK543 hg; have NB544_543 := nbg_ BK543 hg; replace BK543 := blkB_ BK543 hb; clear hb hbox hg; have hnb6 := NB543_544.out; have hnc6 := NB544_543.out; have hcz7_0 := cz_ (.int .i64 a0_0) BK543 0; have hcz7_1 := cz_ (.slice A0_1 l0_1.length c0_1) BK543 1; have hfz7_0 := fz_ BK543 0; have hfz7_1 := fz_ BK543 1) | ((with_reducible refine gate_callee (f := 40) rfl ?_); refine gm_ (some 8) Try.func40 #[.agg #[.int .i64 a0_0, .slice A0_1 l0_1.length c0_1]] rfl ?_; (with_reducible refine (impl_isLadder.calls a0_0 _ _ l0_1 true _ ?side1 ?side2 A2.out).mono ?_); (case side1 => exact Cl_ (Kd.C_below HR0_1.out HB.out)); (case side2 => exact HC0_1.out); rintro e w8 ⟨rfl, hb⟩; refine ⟨_, rfl, ?_⟩; replace BK543 := blkB_ BK543 hb; replace BK544 := blkB_ BK544 hb; replace HB := Bs_ HB hb; (try clear hb); (try clear hb2); (try clear hk); (try clear hi); have hcz9_0 := cz_ (.int .i64 a0_0) BK543 0; have hcz9_1 := cz_ (.slice A0_1 l0_1.length c0_1) BK543 1; have hfz9_0 := fz_ BK543 0; have hfz9_1 := fz_ BK543 1) | ((with_reducible refine gate_dst (N := 4) rfl ?_); refine bx_ #[.int .i64 0, .slice none 0 0] 26 ?_ 4; intro gb546 hg w10 hbox hb; have BK546 := a_ (hbox); have GW546 := gw_ HB hg; have GE546 := gw_ HB hg; replace HB := Bs_ HB hb; have NB543_546 := nbl_ BK543 hg; have NB546_543 := nbg_ BK543 hg; replace BK543 := blkB_ BK543 hb; have NB544_546 := nbl_ BK544 hg; have NB546_544 := nbg_ BK544 hg; replace BK544 := blkB_ BK544 hb; clear hb hbox hg; have hnb11 := NB546_543.out; have hnc11 := NB543_546.out; have hnb12 := NB546_544.out; have hnc12 := NB544_546.out; have hcz13_0 := cz_ (.int .i64 0) BK546 0; have hcz13_1 := cz_ (.slice none 0 0) BK546 1; have hfz13_0 := fz_ BK546 0; have hfz13_1 := fz_ BK546 1; have hcz14_0 := cz_ (.int .i64 a0_0) BK543 0; have hcz14_1 := cz_ (.slice A0_1 l0_1.length c0_1) BK543 1; have hfz14_0 := fz_ BK543 0; have hfz14_1 := fz_ BK543 1))
 go_loopg [18] k (fun kq v18 w' => ∃ (x18_1 : Int) (x547001_1 : List Int) (u547001 : Value), v18 = .int .i64 x18_1 ∧ Aside0 (impl_DoubleLadder.l0 kq l0_1 (l0_1.length : Int) x18_1 (wrap64 (2 * a0_0)) x547001_1 = some (r1, r2, r3)) ∧ Aside0 (kq ≤ k) ∧ Aside0 (Kd.R (Kd.int .i64) 3 w' w.heap.size (fun _ => True) u547001 x547001_1) ∧ Aside0 (w'.heap[gb543]? = some (.cells #[.int .i64 a0_0, (.slice A0_1 l0_1.length c0_1)] 26 (0, 0))) ∧ Aside0 (w'.heap[gb544]? = some (.cells #[.int .i64 0, (.slice none 0 0)] 26 (0, 0))) ∧ Aside0 (w'.heap[gb546]? = some (.cells #[.int .i64 (wrap64 (2 * a0_0)), u547001] 26 (0, 0))) ∧ Aside0 (Below w.heap.size w w'))
 case atStart => exact ⟨(0), (([] : List Int)), (.slice none 0 0), rs_, H', ⟨Nat.le_refl _⟩, ⟨by first | exact Kd.R_nil _ _ _ _ _ | exact Kd.N_nil _ _ _ _ _ | exact Kd.V_nil _ _ _ _ _ | exact Kd.Q_nil _ _ _ _ _ | exact Kd.S_nil _ _ _ _ _⟩, ⟨by (with_reducible repeat (first | refine blk_drewN ?_ _ | refine blk_drew ?_ | refine blk_alloc ?_ _)); refine blk_far ?_ NB543_546.out _; (with_reducible repeat (first | refine blk_drewN ?_ _ | refine blk_drew ?_ | refine blk_alloc ?_ _)); refine blk_far ?_ NB543_546.out _; (with_reducible repeat (first | refine blk_drewN ?_ _ | refine blk_drew ?_ | refine blk_alloc ?_ _)); exact BK543.out⟩, ⟨by (with_reducible repeat (first | refine blk_drewN ?_ _ | refine blk_drew ?_ | refine blk_alloc ?_ _)); refine blk_far ?_ NB544_546.out _; (with_reducible repeat (first | refine blk_drewN ?_ _ | refine blk_drew ?_ | refine blk_alloc ?_ _)); refine blk_far ?_ NB544_546.out _; (with_reducible repeat (first | refine blk_drewN ?_ _ | refine blk_drew ?_ | refine blk_alloc ?_ _)); exact BK544.out⟩, ⟨by (with_reducible repeat (first | refine blk_drewN ?_ _ | refine blk_drew ?_ | refine blk_alloc ?_ _)); refine blk_put (cs := #[.int .i64 (wrap64 (2 * a0_0)), .slice none 0 0]) ?_ 1 _ rfl; (with_reducible repeat (first | refine blk_drewN ?_ _ | refine blk_drew ?_ | refine blk_alloc ?_ _)); refine blk_put (cs := #[.int .i64 0, .slice none 0 0]) ?_ 0 _ rfl; (with_reducible repeat (first | refine blk_drewN ?_ _ | refine blk_drew ?_ | refine blk_alloc ?_ _)); exact BK546.out⟩, ⟨Bl_ HB⟩⟩
 case round =>
  clear H'
  try clear c1
  try clear c2
  try clear p2
  try clear c3
  try clear c4
  try clear c6
  try clear p6
  try clear c11
  try clear c12
  try clear hcz13_0
  try clear hcz13_1
  try clear hcz14_0
  try clear hcz14_1
  try clear hcz7_0
  try clear hcz7_1
  try clear hcz9_0
  try clear hcz9_1
  try clear hfz13_0
  try clear hfz13_1
  try clear hfz14_0
  try clear hfz14_1
  try clear hfz7_0
  try clear hfz7_1
  try clear hfz9_0
  try clear hfz9_1
  obtain ⟨x18_1, x547001_1, u547001, rfl, HA, HK1, HO_547001, BK543, BK544, BK546, HB⟩ := hrel
  cases gk with
  | zero => exact absurd HA.out (by simp [impl_DoubleLadder.l0])
  | succ k1 =>
   have H := HA.out
   clear HA
   simp only [impl_DoubleLadder.l0] at H
   by_cases c15 : x18_1 < (l0_1.length : Int)
   rotate_left
   ·rw [if_neg c15] at H
    have c15b0 : decide (x18_1 < (l0_1.length : Int)) = false := decide_eq_false c15
    clear c15
    obtain ⟨⟨t554, t555, t558⟩, A28, H⟩ := ob_ H
    (try dsimp only at H)
    simp only [Option.some.injEq, Prod.mk.injEq] at H
    obtain ⟨rfl, rfl, rfl⟩ := H
    have hnb29 := NB546_543.out
    have hnc29 := NB543_546.out
    have hnb30 := NB546_544.out
    have hnc30 := NB544_546.out
    have hcz31_0 : wr.cell? ⟨gb546, 0, none⟩ = some (.int .i64 (wrap64 (2 * a0_0))) := (blk_cell BK546.out 0).trans rfl
    have hcz31_1 : wr.cell? ⟨gb546, 1, none⟩ = some (u547001) := (blk_cell BK546.out 1).trans rfl
    have hfz31_0 := fz_ BK546 0
    have hfz31_1 := fz_ BK546 1
    obtain ⟨Ao32, co32, eo32⟩ := Kd.R_slice HO_547001.out
    subst eo32
    go_wp2_with (first | ((with_reducible refine gate_callee (f := 52) rfl ?_); refine gm_ (some 40) Try.func52 #[.agg #[.int .i64 (wrap64 (2 * a0_0)), .slice Ao32 x547001_1.length co32]] rfl ?_; (with_reducible refine (impl_checked.calls (wrap64 (2 * a0_0)) (fun k_ => some k_ = (.slice Ao32 x547001_1.length co32 : Value).ownBlock) (.slice Ao32 x547001_1.length co32) x547001_1 t554 t555 t558 w _ ?side1 ?side2 A28.out).mono ?_); (case side1 => repeat (first | (with_reducible first | exact HB.out | apply below_alloc | apply pw_below_drewN | apply below_drew1 | refine below_set ?_ GE543.out | refine below_set ?_ GE544.out | refine below_set ?_ GE546.out) | exact HB.out)); (case side2 => exact Kd.R_tight rfl HO_547001.out); rintro e w33 ⟨v556, rfl, ho0, hb, hkp⟩; refine ⟨_, rfl, ?_⟩; replace BK543 := a_ (blk_kept (bl_ BK543) hkp (fun hs_ => (fun e_ => (Kd.R_ne HO_547001.out BK543.out (by decide)) e_) hs_)); replace BK544 := a_ (blk_kept (bl_ BK544) hkp (fun hs_ => (fun e_ => (Kd.R_ne HO_547001.out BK544.out (by decide)) e_) hs_)); replace BK546 := a_ (blk_kept (bl_ BK546) hkp (fun hs_ => (fun e_ => (Kd.R_ne HO_547001.out BK546.out (by decide)) e_) hs_)); have HO557 := a_ (Kd.R_mono (ok' := fun k_ => True) ho0 (fun k_ hk_ => trivial)); replace HB := a_ (hb); clear HO_547001; (try clear hb); (try clear hkp); (try clear ho0); have hnb34 := NB544_543.out; have hnc34 := NB543_544.out; have hcz35_0 := cz_ (.int .i64 0) BK544 0; have hcz35_1 := cz_ (.slice none 0 0) BK544 1; have hfz35_0 := fz_ BK544 0; have hfz35_1 := fz_ BK544 1; obtain ⟨Ao36, co36, eo36⟩ := Kd.R_slice HO557.out; subst eo36))
    refine bodyPost_ret (results_ct rfl _ _ gb544 26 #[.int .i64 t554, .slice Ao36 t555.length co36] (0, 0) _ rfl (by (with_reducible repeat (first | refine blk_drewN ?_ _ | refine blk_drew ?_ | refine blk_alloc ?_ _)); refine blk_put (cs := #[.int .i64 t554, .slice none 0 0]) ?_ 1 _ rfl; (with_reducible repeat (first | refine blk_drewN ?_ _ | refine blk_drew ?_ | refine blk_alloc ?_ _)); refine blk_put (cs := #[.int .i64 0, .slice none 0 0]) ?_ 0 _ rfl; (with_reducible repeat (first | refine blk_drewN ?_ _ | refine blk_drew ?_ | refine blk_alloc ?_ _)); exact BK544.out) Try.underlying26 rfl (by kernel_rfl)) rfl ?_
    exact ⟨_, re_, by (with_reducible repeat (first | apply Kd.R_alloc | apply Kd.R_drewN | apply Kd.R_drew)); exact Kd.R_mono (Kd.R_far (p := ⟨gb544, 1, none⟩) (Kd.R_far (p := ⟨gb544, 0, none⟩) (Kd.R_types HO557.out BK544.out (by decide)) (fun _ hk => hk.2) (.int .i64 t554)) (fun _ hk => hk.2) (.slice Ao36 t555.length co36)) (fun _ hk => trivial), Bl_ HB⟩
   rw [if_pos c15] at H
   have c15b0 : decide (x18_1 < (l0_1.length : Int)) = true := decide_eq_true c15
   clear c15
   by_cases c16 : 0 ≤ x18_1
   rotate_left
   ·rw [if_neg c16] at H
    cases H
   rw [if_pos c16] at H
   have c16b0 : decide (0 ≤ x18_1) = true := decide_eq_true c16
   clear c16
   by_cases c17 : x18_1 < (l0_1.length : Int)
   rotate_left
   ·rw [if_neg c17] at H
    cases H
   rw [if_pos c17] at H
   have c17b0 : decide (x18_1 < (l0_1.length : Int)) = true := decide_eq_true c17
   clear c17
   obtain ⟨y548, hy548⟩ : ∃ y_ : List Int, y_ = (([wrap64 ((wrap64 (2 * (rd l0_1 x18_1))) + 1), wrap64 (2 * (rd l0_1 x18_1)), wrap64 ((wrap64 (2 * (rd l0_1 x18_1))) + 2), wrap64 ((wrap64 (2 * (rd l0_1 x18_1))) + 1)] : List Int)) := ⟨_, rfl⟩
   replace H : (if x547001_1.length + y548.length < 17592186044416 then (impl_DoubleLadder.l0 k1 l0_1 (l0_1.length : Int) (wrap64 (x18_1 + 1)) (wrap64 (2 * a0_0)) (x547001_1 ++ y548)) else (none)) = some (r1, r2, r3) := by first | (rw [hy548]; with_reducible exact H) | (have H2_ := (Option.bind_some _ _).symm.trans H; rw [hy548]; with_reducible exact H2_) | (have H2_ := (Option.bind_some _ _).symm.trans H; with_reducible exact H2_) | with_reducible exact H | (rw [hy548]; exact H) | exact H
   have Ny548 := a_ hy548
   clear hy548
   by_cases c18 : x547001_1.length + y548.length < 17592186044416
   rotate_left
   ·rw [if_neg c18] at H
    cases H
   rw [if_pos c18] at H
   have LMc18 := a_ c18
   clear c18
   obtain ⟨y551, hy551⟩ : ∃ y_ : List Int, y_ = (x547001_1 ++ y548) := ⟨_, rfl⟩
   replace H : (impl_DoubleLadder.l0 k1 l0_1 (l0_1.length : Int) (wrap64 (x18_1 + 1)) (wrap64 (2 * a0_0)) y551) = some (r1, r2, r3) := by first | (rw [hy551]; with_reducible exact H) | (have H2_ := (Option.bind_some _ _).symm.trans H; rw [hy551]; with_reducible exact H2_) | (have H2_ := (Option.bind_some _ _).symm.trans H; with_reducible exact H2_) | with_reducible exact H | (rw [hy551]; exact H) | exact H
   have Ny551 := a_ hy551
   clear hy551
   have H' := a_ H
   clear H
   have p547 : 0 ≤ (x18_1 : Int) := od_
   have q547 : x18_1 < (l0_1.length : Int) := od_
   obtain ⟨ad547, e547, hx547_0⟩ := Kd.at_int HR0_1.out x18_1 p547 q547
   cases e547
   replace hx547_0 := (HB.out.cell (World.block_lt_of_cell? w _ hx547_0)).trans hx547_0
   replace p547 := eq_true p547
   replace q547 := eq_true q547
   have hnb19 := NB546_543.out
   have hnc19 := NB543_546.out
   have hnb20 := NB546_544.out
   have hnc20 := NB544_546.out
   have hcz21_0 : wr.cell? ⟨gb546, 0, none⟩ = some (.int .i64 (wrap64 (2 * a0_0))) := (blk_cell BK546.out 0).trans rfl
   have hcz21_1 : wr.cell? ⟨gb546, 1, none⟩ = some (u547001) := (blk_cell BK546.out 1).trans rfl
   have hfz21_0 := fz_ BK546 0
   have hfz21_1 := fz_ BK546 1
   go_wp2_with (first | ((with_reducible refine gate_dst (N := 35) rfl ?_); refine Kd.R_lit (Kd.int .i64) _ 3 ?hg (N := 35) ?hd (xs := ([wrap64 ((wrap64 (2 * (rd l0_1 x18_1))) + 1), wrap64 (2 * (rd l0_1 x18_1)), wrap64 ((wrap64 (2 * (rd l0_1 x18_1))) + 2), wrap64 ((wrap64 (2 * (rd l0_1 x18_1))) + 1)] : List Int)) (inner := [.int .i64 (wrap64 ((wrap64 (2 * (rd l0_1 x18_1))) + 1)), .int .i64 (wrap64 (2 * (rd l0_1 x18_1))), .int .i64 (wrap64 ((wrap64 (2 * (rd l0_1 x18_1))) + 2)), .int .i64 (wrap64 ((wrap64 (2 * (rd l0_1 x18_1))) + 1))]) (ok := fun _ => True) (okp := fun _ => True) ?hr ?hp (fun _ hk => hk) trivial (Below.refl _ _) (Nat.le_refl _) (by simp) ?_; (case hd => rfl); (case hg => rfl); (case hr => first | (go_simp; done) | (go_simp; rfl)); (case hp => exact (Reps.one (show Kd.M (Kd.int .i64) _ _ _ (wrap64 ((wrap64 (2 * (rd l0_1 x18_1))) + 1)) [.int .i64 (wrap64 ((wrap64 (2 * (rd l0_1 x18_1))) + 1))] from rfl) (Reps.one (show Kd.M (Kd.int .i64) _ _ _ (wrap64 (2 * (rd l0_1 x18_1))) [.int .i64 (wrap64 (2 * (rd l0_1 x18_1)))] from rfl) (Reps.one (show Kd.M (Kd.int .i64) _ _ _ (wrap64 ((wrap64 (2 * (rd l0_1 x18_1))) + 2)) [.int .i64 (wrap64 ((wrap64 (2 * (rd l0_1 x18_1))) + 2))] from rfl) (Reps.one (show Kd.M (Kd.int .i64) _ _ _ (wrap64 ((wrap64 (2 * (rd l0_1 x18_1))) + 1)) [.int .i64 (wrap64 ((wrap64 (2 * (rd l0_1 x18_1))) + 1))] from rfl) (Reps.none _ _)))))); intro v549 w22 ho23 hb hg_ hnew_; clear hg_ hnew_; (first | rw [← Ny548.out] at ho23 | (simp only [Int.reduceToNat] at ho23; rw [← Ny548.out] at ho23)); have HO550 := a_ (Kd.R_lower (Kd.R_new' ho23 (Kd.R_lt (Rl_ HO_547001.out))) (below_size (Bl_ HB))); replace HO_547001 := a_ (Kd.R_elder' (Rl_ HO_547001.out) (Kd.R_base ho23) hb); replace BK543 := blkB_ BK543 hb; replace BK544 := blkB_ BK544 hb; replace BK546 := blkB_ BK546 hb; replace HB := Bs_ HB hb; clear hb ho23; obtain ⟨Ao25, co25, eo25⟩ := Kd.R_slice HO550.out; subst eo25) | ((with_reducible refine gate_builtin (b := .append) (xs := #[.tmp 23, .tmp 35]) rfl ?_); at_builtin; refine Kd.R_append_rows (Kd.int .i64) (w0 := w) w.heap.size rfl (.tmp 23) (.tmp 35) 24 3 (.int .i64 0) 8 rfl Try.underlying24 info3 rfl (by decide) (by omega) u547001 x547001_1 y548 _ _ _ (fun k_ => some k_ ≠ (.slice Ao25 y548.length co25 : Value).ownBlock) (fun _ => False) rfl rfl ?aO ?aR (fun _ _ h => h) (fun _ h => h.elim) ?aF ?aB ?aS ?aL ?_; (case aR => exact Cl_ (Kd.R_reads' HO550.out).2.2); (case aB => exact (Bl_ HB)); (case aF => exact (fun k_ hk => Kd.fresh' (Kd.R_lt (Rl_ HO550.out)) k_ hk)); (case aO => exact (Rl_ (Kd.R_mono HO_547001.out (fun _ hk => hk.2)))); (case aS => exact (below_size (Bl_ HB))); (case aL => have := LMc18.out; omega); intro v552 w24 ho hb hg hat; rw [← Ny551.out] at ho; replace BK543 := a_ (blk_grown (g := gb543) (o := .cells #[.int .i64 a0_0, .slice (some ad547) l0_1.length c0_1] 26 (0, 0)) (bl_ BK543) hg (Kd.R_ne HO_547001.out BK543.out (by decide))); replace BK544 := a_ (blk_grown (g := gb544) (o := .cells #[.int .i64 0, .slice none 0 0] 26 (0, 0)) (bl_ BK544) hg (Kd.R_ne HO_547001.out BK544.out (by decide))); replace BK546 := a_ (blk_grown (g := gb546) (o := .cells #[.int .i64 (wrap64 (2 * a0_0)), u547001] 26 (0, 0)) (bl_ BK546) hg (Kd.R_ne HO_547001.out BK546.out (by decide))); replace HO550 := a_ (Kd.R_after (ok := (fun _ => True)) (Rl_ HO550.out) hg hat); replace HB := a_ (hb); have HO553 := a_ (ho); clear HO_547001; clear ho hb hg hat; obtain ⟨Ao26, co26, eo26⟩ := Kd.R_slice HO553.out; subst eo26; have hcz27_0 := cz_ (.int .i64 (wrap64 (2 * a0_0))) BK546 0; have hcz27_1 := cz_ (u547001) BK546 1; have hfz27_0 := fz_ BK546 0; have hfz27_1 := fz_ BK546 1))
   go_roundg k1
   case measure => have := HK1.out; omega
   case rel => exact ⟨(wrap64 (x18_1 + 1)), (y551), (.slice Ao26 y551.length co26), rs_, H', ⟨by have := HK1.out; omega⟩, ⟨Rl_ (Kd.R_mono (Kd.R_far (p := ⟨gb546, 1, none⟩) (Kd.R_types HO553.out BK546.out (by decide)) (fun _ hk => hk.2) (.slice Ao26 y551.length co26)) (fun _ hk => trivial))⟩, ⟨by (with_reducible repeat (first | refine blk_drewN ?_ _ | refine blk_drew ?_ | refine blk_alloc ?_ _)); refine blk_far ?_ NB543_546.out _; (with_reducible repeat (first | refine blk_drewN ?_ _ | refine blk_drew ?_ | refine blk_alloc ?_ _)); exact BK543.out⟩, ⟨by (with_reducible repeat (first | refine blk_drewN ?_ _ | refine blk_drew ?_ | refine blk_alloc ?_ _)); refine blk_far ?_ NB544_546.out _; (with_reducible repeat (first | refine blk_drewN ?_ _ | refine blk_drew ?_ | refine blk_alloc ?_ _)); exact BK544.out⟩, ⟨by (with_reducible repeat (first | refine blk_drewN ?_ _ | refine blk_drew ?_ | refine blk_alloc ?_ _)); refine blk_put (cs := #[.int .i64 (wrap64 (2 * a0_0)), u547001]) ?_ 1 _ rfl; (with_reducible repeat (first | refine blk_drewN ?_ _ | refine blk_drew ?_ | refine blk_alloc ?_ _)); exact BK546.out⟩, ⟨Bl_ HB⟩⟩

/-! ### spec_DoubleLadder: function 29 -/
def spec_DoubleLadder.l0 : Nat → List Int → Int → Int → Int → List Int → Option (Int × List Int × Bool)
 | 0, _, _, _, _, _ => none
 | k + 1, x16, x17, x18, x563000, x563001 => if x18 < x17 then (if 0 ≤ x18 then (if x18 < (x16.length : Int) then ((some (([wrap64 ((wrap64 (2 * (rd x16 x18))) + 1), wrap64 (2 * (rd x16 x18)), wrap64 ((wrap64 (2 * (rd x16 x18))) + 2), wrap64 ((wrap64 (2 * (rd x16 x18))) + 1)] : List Int) : List Int)).bind fun y564 => (if x563001.length + y564.length < 17592186044416 then (spec_DoubleLadder.l0 k x16 x17 (wrap64 (x18 + 1)) x563000 (x563001 ++ y564)) else (none))) else (none)) else (none)) else ((spec_laIf.f k x563000 x563001).bind fun bt570 => (some (bt570.1, bt570.2.1, bt570.2.2)))
def spec_DoubleLadder.f (k : Nat) (a0_0 : Int) (l0_1 : List Int) : Option (Int × List Int × Bool) := (spec_laGood.f k a0_0 l0_1).bind fun t561 => (if t561 = true then (spec_DoubleLadder.l0 k l0_1 (l0_1.length : Int) 0 (wrap64 (2 * a0_0)) ([] : List Int)) else (some (0, ([] : List Int), false)))
theorem spec_DoubleLadder.mono_l : ∀ k, (∀ y0 y1 y2 y3 y4, LeO (spec_DoubleLadder.l0 k y0 y1 y2 y3 y4) (spec_DoubleLadder.l0 (k + 1) y0 y1 y2 y3 y4))
 | 0 => fun _ _ _ _ _ r h => by simp [spec_DoubleLadder.l0] at h
 | k + 1 => by
  have ih0 := spec_DoubleLadder.mono_l k
  ·intro y0 y1 y2 y3 y4
   unfold spec_DoubleLadder.l0
   repeat' first
   | (with_reducible exact ih0 _ _ _ _ _)
   | (with_reducible exact spec_laIf.mono _ _ _)
   | (with_reducible exact LeO.refl _)
   | (with_reducible exact LeO.none _)
   | (with_reducible refine LeO.ite ?_ ?_)
   | (with_reducible refine LeO.bind ?_ (fun _ => ?_))
   | exact LeO.none _
   | refine LeO.ite ?_ ?_
   | refine LeO.bind ?_ (fun _ => ?_)
theorem spec_DoubleLadder.mono : ∀ a0 a1 k, LeO (spec_DoubleLadder.f k a0 a1) (spec_DoubleLadder.f (k + 1) a0 a1) := by
 intro a0 a1 k
 have ih0 := spec_DoubleLadder.mono_l k
 unfold spec_DoubleLadder.f
 repeat' first
  | (with_reducible exact ih0 _ _ _ _ _)
  | (with_reducible exact spec_laGood.mono _ _ _)
  | (with_reducible exact LeO.refl _)
  | (with_reducible exact LeO.none _)
  | (with_reducible refine LeO.ite ?_ ?_)
  | (with_reducible refine LeO.bind ?_ (fun _ => ?_))
  | exact LeO.none _
  | refine LeO.ite ?_ ?_
  | refine LeO.bind ?_ (fun _ => ?_)
set_option maxHeartbeats 8000000 in
set_option maxRecDepth 100000 in
theorem spec_DoubleLadder.calls (k : Nat) (a0_0 : Int) (A0_1 : Option Addr) (c0_1 : Nat) (l0_1 : List Int) (r1 : Int) (r2 : List Int) (r3 : Bool) (w : World) (hr0_1 : Kd.C (Kd.int .i64) w A0_1 l0_1.length l0_1) (hc0_1 : l0_1.length ≤ c0_1) (h : spec_DoubleLadder.f k a0_0 l0_1 = some (r1, r2, r3)) :
 Calls Try.prog 29 #[.agg #[.int .i64 a0_0, .slice A0_1 l0_1.length c0_1]] w fun e w' => ∃ v1_ : Value, e = .returned (.tuple #[.agg #[.int .i64 r1, v1_], .bool r3]) ∧ Kd.R (Kd.int .i64) 3 w' w.heap.size (fun _ => True) v1_ r2 ∧ Below w.heap.size w w' := by
 have hu26 := Try.underlying26
 have HR0_1 := a_ hr0_1
 have HC0_1 := a_ hc0_1
 clear hr0_1 hc0_1
 have HB := a_ (Below.refl w.heap.size w)
 have H : ((spec_laGood.f k a0_0 l0_1).bind fun t561 => (if t561 = true then (spec_DoubleLadder.l0 k l0_1 (l0_1.length : Int) 0 (wrap64 (2 * a0_0)) ([] : List Int)) else (some (0, ([] : List Int), false)))) = some (r1, r2, r3) := h
 clear h
 obtain ⟨t561, A2, H⟩ := ob_ H
 (try dsimp only at H)
 by_cases c3 : t561 = true
 rotate_left
 ·replace c3 := Bool.eq_false_iff.mpr c3
  subst c3
  rw [if_neg (show ¬ (false = true) by decide)] at H
  simp only [Option.some.injEq, Prod.mk.injEq] at H
  obtain ⟨rfl, rfl, rfl⟩ := H
  go_enter Try.func29, Try.ntmps29
  go_wp2_with (first | ((with_reducible refine gate_dst (N := 1) rfl ?_); refine bx_ #[.int .i64 a0_0, .slice A0_1 l0_1.length c0_1] 26 ?_ 1; intro gb559 hg w37 hbox hb; have BK559 := a_ (hbox); have GW559 := gw_ HB hg; have GE559 := gw_ HB hg; replace HB := Bs_ HB hb; clear hb hbox hg) | ((with_reducible refine gate_dst (N := 2) rfl ?_); refine bx_ #[.int .i64 0, .slice none 0 0] 26 ?_ 2; intro gb560 hg w38 hbox hb; have BK560 := a_ (hbox); have GW560 := gw_ HB hg; have GE560 := gw_ HB hg; replace HB := Bs_ HB hb; have NB559_560 := nbl_ BK559 hg; have NB560_559 := nbg_ BK559 hg; replace BK559 := blkB_ BK559 hb; clear hb hbox hg; have hnb39 := NB559_560.out; have hnc39 := NB560_559.out; have hcz40_0 := cz_ (.int .i64 a0_0) BK559 0; have hcz40_1 := cz_ (.slice A0_1 l0_1.length c0_1) BK559 1; have hfz40_0 := fz_ BK559 0; have hfz40_1 := fz_ BK559 1) | ((with_reducible refine gate_callee (f := 45) rfl ?_); refine gm_ (some 8) Try.func45 #[.agg #[.int .i64 a0_0, .slice A0_1 l0_1.length c0_1]] rfl ?_; (with_reducible refine (spec_laGood.calls k a0_0 _ _ l0_1 false _ ?side1 ?side2 A2.out).mono ?_); (case side1 => exact Cl_ (Kd.C_below HR0_1.out HB.out)); (case side2 => exact HC0_1.out); rintro e w41 ⟨rfl, hb⟩; refine ⟨_, rfl, ?_⟩; replace BK559 := blkB_ BK559 hb; replace BK560 := blkB_ BK560 hb; replace HB := Bs_ HB hb; (try clear hb); (try clear hb2); (try clear hk); (try clear hi); have hcz42_0 := cz_ (.int .i64 0) BK560 0; have hcz42_1 := cz_ (.slice none 0 0) BK560 1; have hfz42_0 := fz_ BK560 0; have hfz42_1 := fz_ BK560 1))
  refine bodyPost_ret (results_ct rfl _ _ gb560 26 #[.int .i64 0, .slice none 0 0] (0, 0) _ rfl (by (with_reducible repeat (first | refine blk_drewN ?_ _ | refine blk_drew ?_ | refine blk_alloc ?_ _)); refine blk_put (cs := #[.int .i64 0, .slice none 0 0]) ?_ 1 _ rfl; (with_reducible repeat (first | refine blk_drewN ?_ _ | refine blk_drew ?_ | refine blk_alloc ?_ _)); refine blk_put (cs := #[.int .i64 0, .slice none 0 0]) ?_ 0 _ rfl; (with_reducible repeat (first | refine blk_drewN ?_ _ | refine blk_drew ?_ | refine blk_alloc ?_ _)); exact BK560.out) Try.underlying26 rfl (by kernel_rfl)) rfl ?_
  exact ⟨_, re_, by first | exact Kd.R_nil _ _ _ _ _ | exact Kd.N_nil _ _ _ _ _ | exact Kd.V_nil _ _ _ _ _ | exact Kd.Q_nil _ _ _ _ _ | exact Kd.S_nil _ _ _ _ _, Bl_ HB⟩
 subst c3
 rw [if_pos rfl] at H
 have H' := a_ H
 clear H
 go_enter Try.func29, Try.ntmps29
 go_wp2_with (first | ((with_reducible refine gate_dst (N := 1) rfl ?_); refine bx_ #[.int .i64 a0_0, .slice A0_1 l0_1.length c0_1] 26 ?_ 1; intro gb559 hg w4 hbox hb; have BK559 := a_ (hbox); have GW559 := gw_ HB hg; have GE559 := gw_ HB hg; replace HB := Bs_ HB hb; clear hb hbox hg) | ((with_reducible refine gate_dst (N := 2) rfl ?_); refine bx_ #[.int .i64 0, .slice none 0 0] 26 ?_ 2; intro gb560 hg w5 hbox hb; have BK560 := a_ (hbox); have GW560 := gw_ HB hg; have GE560 := gw_ HB hg; replace HB := Bs_ HB hb; have NB559_560 := nbl_ BK559 hg; have NB560_559 := nbg_ BK559 hg; replace BK559 := blkB_ BK559 hb; clear hb hbox hg; have hnb6 := NB559_560.out; have hnc6 := NB560_559.out; have hcz7_0 := cz_ (.int .i64 a0_0) BK559 0; have hcz7_1 := cz_ (.slice A0_1 l0_1.length c0_1) BK559 1; have hfz7_0 := fz_ BK559 0; have hfz7_1 := fz_ BK559 1) | ((with_reducible refine gate_callee (f := 45) rfl ?_); refine gm_ (some 8) Try.func45 #[.agg #[.int .i64 a0_0, .slice A0_1 l0_1.length c0_1]] rfl ?_; (with_reducible refine (spec_laGood.calls k a0_0 _ _ l0_1 true _ ?side1 ?side2 A2.out).mono ?_); (case side1 => exact Cl_ (Kd.C_below HR0_1.out HB.out)); (case side2 => exact HC0_1.out); rintro e w8 ⟨rfl, hb⟩; refine ⟨_, rfl, ?_⟩; replace BK559 := blkB_ BK559 hb; replace BK560 := blkB_ BK560 hb; replace HB := Bs_ HB hb; (try clear hb); (try clear hb2); (try clear hk); (try clear hi); have hcz9_0 := cz_ (.int .i64 a0_0) BK559 0; have hcz9_1 := cz_ (.slice A0_1 l0_1.length c0_1) BK559 1; have hfz9_0 := fz_ BK559 0; have hfz9_1 := fz_ BK559 1) | ((with_reducible refine gate_dst (N := 4) rfl ?_); refine bx_ #[.int .i64 0, .slice none 0 0] 26 ?_ 4; intro gb562 hg w10 hbox hb; have BK562 := a_ (hbox); have GW562 := gw_ HB hg; have GE562 := gw_ HB hg; replace HB := Bs_ HB hb; have NB559_562 := nbl_ BK559 hg; have NB562_559 := nbg_ BK559 hg; replace BK559 := blkB_ BK559 hb; have NB560_562 := nbl_ BK560 hg; have NB562_560 := nbg_ BK560 hg; replace BK560 := blkB_ BK560 hb; clear hb hbox hg; have hnb11 := NB562_559.out; have hnc11 := NB559_562.out; have hnb12 := NB562_560.out; have hnc12 := NB560_562.out; have hcz13_0 := cz_ (.int .i64 0) BK562 0; have hcz13_1 := cz_ (.slice none 0 0) BK562 1; have hfz13_0 := fz_ BK562 0; have hfz13_1 := fz_ BK562 1; have hcz14_0 := cz_ (.int .i64 a0_0) BK559 0; have hcz14_1 := cz_ (.slice A0_1 l0_1.length c0_1) BK559 1; have hfz14_0 := fz_ BK559 0; have hfz14_1 := fz_ BK559 1))
 go_loopg [18] k (fun kq v18 w' => ∃ (x18_1 : Int) (x563001_1 : List Int) (u563001 : Value), v18 = .int .i64 x18_1 ∧ Aside0 (spec_DoubleLadder.l0 kq l0_1 (l0_1.length : Int) x18_1 (wrap64 (2 * a0_0)) x563001_1 = some (r1, r2, r3)) ∧ Aside0 (kq ≤ k) ∧ Aside0 (Kd.R (Kd.int .i64) 3 w' w.heap.size (fun _ => True) u563001 x563001_1) ∧ Aside0 (w'.heap[gb559]? = some (.cells #[.int .i64 a0_0, (.slice A0_1 l0_1.length c0_1)] 26 (0, 0))) ∧ Aside0 (w'.heap[gb560]? = some (.cells #[.int .i64 0, (.slice none 0 0)] 26 (0, 0))) ∧ Aside0 (w'.heap[gb562]? = some (.cells #[.int .i64 (wrap64 (2 * a0_0)), u563001] 26 (0, 0))) ∧ Aside0 (Below w.heap.size w w'))
 case atStart => exact ⟨(0), (([] : List Int)), (.slice none 0 0), rs_, H', ⟨Nat.le_refl _⟩, ⟨by first | exact Kd.R_nil _ _ _ _ _ | exact Kd.N_nil _ _ _ _ _ | exact Kd.V_nil _ _ _ _ _ | exact Kd.Q_nil _ _ _ _ _ | exact Kd.S_nil _ _ _ _ _⟩, ⟨by (with_reducible repeat (first | refine blk_drewN ?_ _ | refine blk_drew ?_ | refine blk_alloc ?_ _)); refine blk_far ?_ NB559_562.out _; (with_reducible repeat (first | refine blk_drewN ?_ _ | refine blk_drew ?_ | refine blk_alloc ?_ _)); refine blk_far ?_ NB559_562.out _; (with_reducible repeat (first | refine blk_drewN ?_ _ | refine blk_drew ?_ | refine blk_alloc ?_ _)); exact BK559.out⟩, ⟨by (with_reducible repeat (first | refine blk_drewN ?_ _ | refine blk_drew ?_ | refine blk_alloc ?_ _)); refine blk_far ?_ NB560_562.out _; (with_reducible repeat (first | refine blk_drewN ?_ _ | refine blk_drew ?_ | refine blk_alloc ?_ _)); refine blk_far ?_ NB560_562.out _; (with_reducible repeat (first | refine blk_drewN ?_ _ | refine blk_drew ?_ | refine blk_alloc ?_ _)); exact BK560.out⟩, ⟨by (with_reducible repeat (first | refine blk_drewN ?_ _ | refine blk_drew ?_ | refine blk_alloc ?_ _)); refine blk_put (cs := #[.int .i64 (wrap64 (2 * a0_0)), .slice none 0 0]) ?_ 1 _ rfl; (with_reducible repeat (first | refine blk_drewN ?_ _ | refine blk_drew ?_ | refine blk_alloc ?_ _)); refine blk_put (cs := #[.int .i64 0, .slice none 0 0]) ?_ 0 _ rfl; (with_reducible repeat (first | refine blk_drewN ?_ _ | refine blk_drew ?_ | refine blk_alloc ?_ _)); exact BK562.out⟩, ⟨Bl_ HB⟩⟩
 case round =>
  clear H'
  try clear c1
  try clear c2
  try clear p2
  try clear c3
  try clear c4
  try clear c6
  try clear p6
  try clear c11
  try clear c12
  try clear hcz13_0
  try clear hcz13_1
  try clear hcz14_0
  try clear hcz14_1
  try clear hcz7_0
  try clear hcz7_1
  try clear hcz9_0
  try clear hcz9_1
  try clear hfz13_0
  try clear hfz13_1
  try clear hfz14_0
  try clear hfz14_1
  try clear hfz7_0
  try clear hfz7_1
  try clear hfz9_0
  try clear hfz9_1
  obtain ⟨x18_1, x563001_1, u563001, rfl, HA, HK1, HO_563001, BK559, BK560, BK562, HB⟩ := hrel
  cases gk with
  | zero => exact absurd HA.out (by simp [spec_DoubleLadder.l0])
  | succ k1 =>
   have H := HA.out
   clear HA
   simp only [spec_DoubleLadder.l0] at H
   by_cases c15 : x18_1 < (l0_1.length : Int)
   rotate_left
   ·rw [if_neg c15] at H
    have c15b0 : decide (x18_1 < (l0_1.length : Int)) = false := decide_eq_false c15
    clear c15
    obtain ⟨⟨t570, t571, t574⟩, A28, H⟩ := ob_ H
    (try dsimp only at H)
    simp only [Option.some.injEq, Prod.mk.injEq] at H
    obtain ⟨rfl, rfl, rfl⟩ := H
    have hnb29 := NB562_559.out
    have hnc29 := NB559_562.out
    have hnb30 := NB562_560.out
    have hnc30 := NB560_562.out
    have hcz31_0 : wr.cell? ⟨gb562, 0, none⟩ = some (.int .i64 (wrap64 (2 * a0_0))) := (blk_cell BK562.out 0).trans rfl
    have hcz31_1 : wr.cell? ⟨gb562, 1, none⟩ = some (u563001) := (blk_cell BK562.out 1).trans rfl
    have hfz31_0 := fz_ BK562 0
    have hfz31_1 := fz_ BK562 1
    obtain ⟨Ao32, co32, eo32⟩ := Kd.R_slice HO_563001.out
    subst eo32
    go_wp2_with (first | ((with_reducible refine gate_callee (f := 54) rfl ?_); refine gm_ (some 40) Try.func54 #[.agg #[.int .i64 (wrap64 (2 * a0_0)), .slice Ao32 x563001_1.length co32]] rfl ?_; (with_reducible refine (spec_laIf.calls k1 (wrap64 (2 * a0_0)) (fun k_ => some k_ = (.slice Ao32 x563001_1.length co32 : Value).ownBlock) (.slice Ao32 x563001_1.length co32) x563001_1 t570 t571 t574 w _ ?side1 ?side2 A28.out).mono ?_); (case side1 => repeat (first | (with_reducible first | exact HB.out | apply below_alloc | apply pw_below_drewN | apply below_drew1 | refine below_set ?_ GE559.out | refine below_set ?_ GE560.out | refine below_set ?_ GE562.out) | exact HB.out)); (case side2 => exact Kd.R_tight rfl HO_563001.out); rintro e w33 ⟨v572, rfl, ho0, hb, hkp⟩; refine ⟨_, rfl, ?_⟩; replace BK559 := a_ (blk_kept (bl_ BK559) hkp (fun hs_ => (fun e_ => (Kd.R_ne HO_563001.out BK559.out (by decide)) e_) hs_)); replace BK560 := a_ (blk_kept (bl_ BK560) hkp (fun hs_ => (fun e_ => (Kd.R_ne HO_563001.out BK560.out (by decide)) e_) hs_)); replace BK562 := a_ (blk_kept (bl_ BK562) hkp (fun hs_ => (fun e_ => (Kd.R_ne HO_563001.out BK562.out (by decide)) e_) hs_)); have HO573 := a_ (Kd.R_mono (ok' := fun k_ => True) ho0 (fun k_ hk_ => trivial)); replace HB := a_ (hb); clear HO_563001; (try clear hb); (try clear hkp); (try clear ho0); have hnb34 := NB560_559.out; have hnc34 := NB559_560.out; have hcz35_0 := cz_ (.int .i64 0) BK560 0; have hcz35_1 := cz_ (.slice none 0 0) BK560 1; have hfz35_0 := fz_ BK560 0; have hfz35_1 := fz_ BK560 1; obtain ⟨Ao36, co36, eo36⟩ := Kd.R_slice HO573.out; subst eo36))
    refine bodyPost_ret (results_ct rfl _ _ gb560 26 #[.int .i64 t570, .slice Ao36 t571.length co36] (0, 0) _ rfl (by (with_reducible repeat (first | refine blk_drewN ?_ _ | refine blk_drew ?_ | refine blk_alloc ?_ _)); refine blk_put (cs := #[.int .i64 t570, .slice none 0 0]) ?_ 1 _ rfl; (with_reducible repeat (first | refine blk_drewN ?_ _ | refine blk_drew ?_ | refine blk_alloc ?_ _)); refine blk_put (cs := #[.int .i64 0, .slice none 0 0]) ?_ 0 _ rfl; (with_reducible repeat (first | refine blk_drewN ?_ _ | refine blk_drew ?_ | refine blk_alloc ?_ _)); exact BK560.out) Try.underlying26 rfl (by kernel_rfl)) rfl ?_
    exact ⟨_, re_, by (with_reducible repeat (first | apply Kd.R_alloc | apply Kd.R_drewN | apply Kd.R_drew)); exact Kd.R_mono (Kd.R_far (p := ⟨gb560, 1, none⟩) (Kd.R_far (p := ⟨gb560, 0, none⟩) (Kd.R_types HO573.out BK560.out (by decide)) (fun _ hk => hk.2) (.int .i64 t570)) (fun _ hk => hk.2) (.slice Ao36 t571.length co36)) (fun _ hk => trivial), Bl_ HB⟩
   rw [if_pos c15] at H
   have c15b0 : decide (x18_1 < (l0_1.length : Int)) = true := decide_eq_true c15
   clear c15
   by_cases c16 : 0 ≤ x18_1
   rotate_left
   ·rw [if_neg c16] at H
    cases H
   rw [if_pos c16] at H
   have c16b0 : decide (0 ≤ x18_1) = true := decide_eq_true c16
   clear c16
   by_cases c17 : x18_1 < (l0_1.length : Int)
   rotate_left
   ·rw [if_neg c17] at H
    cases H
   rw [if_pos c17] at H
   have c17b0 : decide (x18_1 < (l0_1.length : Int)) = true := decide_eq_true c17
   clear c17
   obtain ⟨y564, hy564⟩ : ∃ y_ : List Int, y_ = (([wrap64 ((wrap64 (2 * (rd l0_1 x18_1))) + 1), wrap64 (2 * (rd l0_1 x18_1)), wrap64 ((wrap64 (2 * (rd l0_1 x18_1))) + 2), wrap64 ((wrap64 (2 * (rd l0_1 x18_1))) + 1)] : List Int)) := ⟨_, rfl⟩
   replace H : (if x563001_1.length + y564.length < 17592186044416 then (spec_DoubleLadder.l0 k1 l0_1 (l0_1.length : Int) (wrap64 (x18_1 + 1)) (wrap64 (2 * a0_0)) (x563001_1 ++ y564)) else (none)) = some (r1, r2, r3) := by first | (rw [hy564]; with_reducible exact H) | (have H2_ := (Option.bind_some _ _).symm.trans H; rw [hy564]; with_reducible exact H2_) | (have H2_ := (Option.bind_some _ _).symm.trans H; with_reducible exact H2_) | with_reducible exact H | (rw [hy564]; exact H) | exact H
   have Ny564 := a_ hy564
   clear hy564
   by_cases c18 : x563001_1.length + y564.length < 17592186044416
   rotate_left
   ·rw [if_neg c18] at H
    cases H
   rw [if_pos c18] at H
   have LMc18 := a_ c18
   clear c18
   obtain ⟨y567, hy567⟩ : ∃ y_ : List Int, y_ = (x563001_1 ++ y564) := ⟨_, rfl⟩
   replace H : (spec_DoubleLadder.l0 k1 l0_1 (l0_1.length : Int) (wrap64 (x18_1 + 1)) (wrap64 (2 * a0_0)) y567) = some (r1, r2, r3) := by first | (rw [hy567]; with_reducible exact H) | (have H2_ := (Option.bind_some _ _).symm.trans H; rw [hy567]; with_reducible exact H2_) | (have H2_ := (Option.bind_some _ _).symm.trans H; with_reducible exact H2_) | with_reducible exact H | (rw [hy567]; exact H) | exact H
   have Ny567 := a_ hy567
   clear hy567
   have H' := a_ H
   clear H
   have p563 : 0 ≤ (x18_1 : Int) := od_
   have q563 : x18_1 < (l0_1.length : Int) := od_
   obtain ⟨ad563, e563, hx563_0⟩ := Kd.at_int HR0_1.out x18_1 p563 q563
   cases e563
   replace hx563_0 := (HB.out.cell (World.block_lt_of_cell? w _ hx563_0)).trans hx563_0
   replace p563 := eq_true p563
   replace q563 := eq_true q563
   have hnb19 := NB562_559.out
   have hnc19 := NB559_562.out
   have hnb20 := NB562_560.out
   have hnc20 := NB560_562.out
   have hcz21_0 : wr.cell? ⟨gb562, 0, none⟩ = some (.int .i64 (wrap64 (2 * a0_0))) := (blk_cell BK562.out 0).trans rfl
   have hcz21_1 : wr.cell? ⟨gb562, 1, none⟩ = some (u563001) := (blk_cell BK562.out 1).trans rfl
   have hfz21_0 := fz_ BK562 0
   have hfz21_1 := fz_ BK562 1
   go_wp2_with (first | ((with_reducible refine gate_dst (N := 35) rfl ?_); refine Kd.R_lit (Kd.int .i64) _ 3 ?hg (N := 35) ?hd (xs := ([wrap64 ((wrap64 (2 * (rd l0_1 x18_1))) + 1), wrap64 (2 * (rd l0_1 x18_1)), wrap64 ((wrap64 (2 * (rd l0_1 x18_1))) + 2), wrap64 ((wrap64 (2 * (rd l0_1 x18_1))) + 1)] : List Int)) (inner := [.int .i64 (wrap64 ((wrap64 (2 * (rd l0_1 x18_1))) + 1)), .int .i64 (wrap64 (2 * (rd l0_1 x18_1))), .int .i64 (wrap64 ((wrap64 (2 * (rd l0_1 x18_1))) + 2)), .int .i64 (wrap64 ((wrap64 (2 * (rd l0_1 x18_1))) + 1))]) (ok := fun _ => True) (okp := fun _ => True) ?hr ?hp (fun _ hk => hk) trivial (Below.refl _ _) (Nat.le_refl _) (by simp) ?_; (case hd => rfl); (case hg => rfl); (case hr => first | (go_simp; done) | (go_simp; rfl)); (case hp => exact (Reps.one (show Kd.M (Kd.int .i64) _ _ _ (wrap64 ((wrap64 (2 * (rd l0_1 x18_1))) + 1)) [.int .i64 (wrap64 ((wrap64 (2 * (rd l0_1 x18_1))) + 1))] from rfl) (Reps.one (show Kd.M (Kd.int .i64) _ _ _ (wrap64 (2 * (rd l0_1 x18_1))) [.int .i64 (wrap64 (2 * (rd l0_1 x18_1)))] from rfl) (Reps.one (show Kd.M (Kd.int .i64) _ _ _ (wrap64 ((wrap64 (2 * (rd l0_1 x18_1))) + 2)) [.int .i64 (wrap64 ((wrap64 (2 * (rd l0_1 x18_1))) + 2))] from rfl) (Reps.one (show Kd.M (Kd.int .i64) _ _ _ (wrap64 ((wrap64 (2 * (rd l0_1 x18_1))) + 1)) [.int .i64 (wrap64 ((wrap64 (2 * (rd l0_1 x18_1))) + 1))] from rfl) (Reps.none _ _)))))); intro v565 w22 ho23 hb hg_ hnew_; clear hg_ hnew_; (first | rw [← Ny564.out] at ho23 | (simp only [Int.reduceToNat] at ho23; rw [← Ny564.out] at ho23)); have HO566 := a_ (Kd.R_lower (Kd.R_new' ho23 (Kd.R_lt (Rl_ HO_563001.out))) (below_size (Bl_ HB))); replace HO_563001 := a_ (Kd.R_elder' (Rl_ HO_563001.out) (Kd.R_base ho23) hb); replace BK559 := blkB_ BK559 hb; replace BK560 := blkB_ BK560 hb; replace BK562 := blkB_ BK562 hb; replace HB := Bs_ HB hb; clear hb ho23; obtain ⟨Ao25, co25, eo25⟩ := Kd.R_slice HO566.out; subst eo25) | ((with_reducible refine gate_builtin (b := .append) (xs := #[.tmp 23, .tmp 35]) rfl ?_); at_builtin; refine Kd.R_append_rows (Kd.int .i64) (w0 := w) w.heap.size rfl (.tmp 23) (.tmp 35) 24 3 (.int .i64 0) 8 rfl Try.underlying24 info3 rfl (by decide) (by omega) u563001 x563001_1 y564 _ _ _ (fun k_ => some k_ ≠ (.slice Ao25 y564.length co25 : Value).ownBlock) (fun _ => False) rfl rfl ?aO ?aR (fun _ _ h => h) (fun _ h => h.elim) ?aF ?aB ?aS ?aL ?_; (case aR => exact Cl_ (Kd.R_reads' HO566.out).2.2); (case aB => exact (Bl_ HB)); (case aF => exact (fun k_ hk => Kd.fresh' (Kd.R_lt (Rl_ HO566.out)) k_ hk)); (case aO => exact (Rl_ (Kd.R_mono HO_563001.out (fun _ hk => hk.2)))); (case aS => exact (below_size (Bl_ HB))); (case aL => have := LMc18.out; omega); intro v568 w24 ho hb hg hat; rw [← Ny567.out] at ho; replace BK559 := a_ (blk_grown (g := gb559) (o := .cells #[.int .i64 a0_0, .slice (some ad563) l0_1.length c0_1] 26 (0, 0)) (bl_ BK559) hg (Kd.R_ne HO_563001.out BK559.out (by decide))); replace BK560 := a_ (blk_grown (g := gb560) (o := .cells #[.int .i64 0, .slice none 0 0] 26 (0, 0)) (bl_ BK560) hg (Kd.R_ne HO_563001.out BK560.out (by decide))); replace BK562 := a_ (blk_grown (g := gb562) (o := .cells #[.int .i64 (wrap64 (2 * a0_0)), u563001] 26 (0, 0)) (bl_ BK562) hg (Kd.R_ne HO_563001.out BK562.out (by decide))); replace HO566 := a_ (Kd.R_after (ok := (fun _ => True)) (Rl_ HO566.out) hg hat); replace HB := a_ (hb); have HO569 := a_ (ho); clear HO_563001; clear ho hb hg hat; obtain ⟨Ao26, co26, eo26⟩ := Kd.R_slice HO569.out; subst eo26; have hcz27_0 := cz_ (.int .i64 (wrap64 (2 * a0_0))) BK562 0; have hcz27_1 := cz_ (u563001) BK562 1; have hfz27_0 := fz_ BK562 0; have hfz27_1 := fz_ BK562 1))
   go_roundg k1
   case measure => have := HK1.out; omega
   case rel => exact ⟨(wrap64 (x18_1 + 1)), (y567), (.slice Ao26 y567.length co26), rs_, H', ⟨by have := HK1.out; omega⟩, ⟨Rl_ (Kd.R_mono (Kd.R_far (p := ⟨gb562, 1, none⟩) (Kd.R_types HO569.out BK562.out (by decide)) (fun _ hk => hk.2) (.slice Ao26 y567.length co26)) (fun _ hk => trivial))⟩, ⟨by (with_reducible repeat (first | refine blk_drewN ?_ _ | refine blk_drew ?_ | refine blk_alloc ?_ _)); refine blk_far ?_ NB559_562.out _; (with_reducible repeat (first | refine blk_drewN ?_ _ | refine blk_drew ?_ | refine blk_alloc ?_ _)); exact BK559.out⟩, ⟨by (with_reducible repeat (first | refine blk_drewN ?_ _ | refine blk_drew ?_ | refine blk_alloc ?_ _)); refine blk_far ?_ NB560_562.out _; (with_reducible repeat (first | refine blk_drewN ?_ _ | refine blk_drew ?_ | refine blk_alloc ?_ _)); exact BK560.out⟩, ⟨by (with_reducible repeat (first | refine blk_drewN ?_ _ | refine blk_drew ?_ | refine blk_alloc ?_ _)); refine blk_put (cs := #[.int .i64 (wrap64 (2 * a0_0)), u563001]) ?_ 1 _ rfl; (with_reducible repeat (first | refine blk_drewN ?_ _ | refine blk_drew ?_ | refine blk_alloc ?_ _)); exact BK562.out⟩, ⟨Bl_ HB⟩⟩

end Go.Proofs.Ytakddaclgppdjaa.B
