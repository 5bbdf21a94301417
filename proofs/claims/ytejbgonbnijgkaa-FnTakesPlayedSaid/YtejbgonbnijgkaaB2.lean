/- The walks of functions of the given program and of its reference: each call of the machine returns what the plain Lean function of the same name says. Conditions: those in each statement. (Written by this session's program over the kit's print.) -/
import Derived.Test.YtejbgonbnijgkaaB0
import Derived.Test.YtejbgonbnijgkaaB1
namespace Go.Proofs.Ytejbgonbnijgkaa.B
open Go.RowKit Go.Proofs.YtejbgonbnijgkaaW.PrintWords Go.Proofs.YtejbgonbnijgkaaW.PrintLast Go.Proofs.YtejbgonbnijgkaaW.PrintMore
attribute [local go_sem] max2_int min2_int max_two min_two max_three min_three max_four min_four   -- for this text's walks alone
set_option linter.unusedVariables false
set_option linter.unusedSimpArgs false

/-! ### spec_DrawIsTaking: function 111 -/
def spec_DrawIsTaking.f (k : Nat) (l0 : List Int) : Option (Int × List Int) := (spec_l1Cur_taking.f k l0 0 0).bind fun bt1176 => (some (bt1176.1, bt1176.2.1))
theorem spec_DrawIsTaking.mono : ∀ a0 k, LeO (spec_DrawIsTaking.f k a0) (spec_DrawIsTaking.f (k + 1) a0) := by
 intro a0 k
 unfold spec_DrawIsTaking.f
 repeat' first
  | (with_reducible exact spec_l1Cur_taking.mono _ _ _ _)
  | (with_reducible exact LeO.refl _)
  | (with_reducible exact LeO.none _)
  | (with_reducible refine LeO.ite ?_ ?_)
  | (with_reducible refine LeO.bind ?_ (fun _ => ?_))
  | exact spec_l1Cur_taking.mono _ _ _ _
  | exact LeO.none _
  | refine LeO.ite ?_ ?_
  | refine LeO.bind ?_ (fun _ => ?_)
set_option maxHeartbeats 8000000 in
set_option maxRecDepth 100000 in
theorem spec_DrawIsTaking.calls (k : Nat) (A0 : Option Addr) (c0 : Nat) (l0 : List Int) (r1 : Int) (r2 : List Int) (w : World) (hr0 : Kd.C (Kd.int .u8) w A0 l0.length l0) (hc0 : l0.length ≤ c0) (h : spec_DrawIsTaking.f k l0 = some (r1, r2)) :
 Calls Try.prog 111 #[.slice A0 l0.length c0] w fun e w' => ∃ v1_ : Value, e = .returned (.agg #[.int .i64 r1, v1_]) ∧ Kd.R (Kd.int .i64) 3 w' w.heap.size (fun _ => True) v1_ r2 ∧ Below w.heap.size w w' := by
 have hu26 := Try.underlying26
 have hu71 := Try.underlying71
 have HR0 := Aside0.mk hr0
 have HC0 := Aside0.mk hc0
 clear hr0 hc0
 have HB := Aside0.mk (Below.refl w.heap.size w)
 have H : ((spec_l1Cur_taking.f k l0 0 0).bind fun bt1176 => (some (bt1176.1, bt1176.2.1))) = some (r1, r2) := h
 clear h
 replace H := Option.bind_eq_some_iff.mp H
 obtain ⟨⟨t1176, t1177, t1180, t1181⟩, A20, H⟩ := H
 (try dsimp only at H)
 have A2 := Aside0.mk A20
 clear A20
 simp only [Option.some.injEq, Prod.mk.injEq] at H
 obtain ⟨rfl, rfl⟩ := H
 go_enter Try.func111, Try.ntmps111
 go_wp2_with (first | ((with_reducible refine gate_dst (N := 2) rfl ?_); refine box_event ?hg (N := 2) ?hd (cs := #[.int .i64 0, .slice none 0 0]) (t := 26) ?hr ?_; (case hd => rfl); (case hg => rfl); (case hr => first | (go_simp; done) | (go_simp; rfl)); intro gb1174 hg w3 hbox hb; have BK1174 := Aside0.mk (hbox); have GW1174 := Aside0.mk ((by rw [hg]; exact (below_size (Bl_ HB)) : w.heap.size ≤ gb1174)); have GE1174 := Aside0.mk ((by rw [hg]; exact (below_size (Bl_ HB)) : w.heap.size ≤ gb1174)); replace HB := Aside0.mk (below_step (Bl_ HB) hb); clear hb hbox hg) | ((with_reducible refine gate_dst (N := 6) rfl ?_); refine box_event ?hg (N := 6) ?hd (cs := #[.slice A0 l0.length c0, .int .i64 0, .int .u64 0]) (t := 71) ?hr ?_; (case hd => rfl); (case hg => rfl); (case hr => first | (go_simp; done) | (go_simp; rfl)); intro gb1175 hg w4 hbox hb; have HI1175 := Aside0.mk ((⟨_, _, hbox, (by rw [hg]; exact (below_size (Bl_ HB)) : w.heap.size ≤ gb1175), HR0.out⟩ : IsS71 w w4 gb1175 l0 0 0)); have GW1175 := Aside0.mk ((by rw [hg]; exact (below_size (Bl_ HB)) : w.heap.size ≤ gb1175)); have GE1175 := Aside0.mk ((by rw [hg]; exact (below_size (Bl_ HB)) : w.heap.size ≤ gb1175)); replace HB := Aside0.mk (below_step (Bl_ HB) hb); have NB1174_1175 := nbl_ BK1174 hg; have NB1175_1174 := nbg_ BK1174 hg; replace BK1174 := blkB_ BK1174 hb; clear hb hbox hg) | ((with_reducible refine gate_callee (f := 127) rfl ?_); refine gl_ (some 8) rfl rfl Try.func127 (by kernel_rfl) rfl #[.pointer (some ⟨gb1175, 0, none⟩)] rfl ?_; (with_reducible refine (spec_l1Cur_taking.calls k gb1175 l0 0 0 t1176 t1177 t1180 t1181 w _ ?side1 ?side2 A2.out).mono ?_); (case side1 => repeat (first | (with_reducible first | exact HI1175.out | apply IsS71.alloc | apply IsS71.drewN | apply IsS71.drew | apply IsS71.set_1 | apply IsS71.set_2 | refine IsS71.far ?_ NB1175_1174.out _) | exact HI1175.out)); (case side2 => repeat (first | (with_reducible first | exact HB.out | apply below_alloc | apply pw_below_drewN | apply below_drew1 | refine below_set ?_ (IsS71.ge HI1175.out) | refine below_set ?_ GE1174.out) | exact HB.out)); rintro e w5 ⟨v1178, rfl, ho0, hi, hb, hk⟩; refine ⟨_, rfl, ?_⟩; replace BK1174 := Aside0.mk (KeepBut.blk hk (g' := gb1174) (o := .cells #[.int .i64 0, .slice none 0 0] 26 (0, 0)) (bl_ BK1174) NB1174_1175.out (by simp)); have HO1179 := Aside0.mk (Kd.R_lower ho0 (below_size (by repeat (first | (with_reducible first | exact HB.out | apply below_alloc | apply pw_below_drewN | apply below_drew1 | refine below_set ?_ (IsS71.ge HI1175.out) | refine below_set ?_ GE1174.out) | exact HB.out)))); replace HB := Aside0.mk (hb); replace HI1175 := Aside0.mk (hi); (try clear hb); (try clear hb2); (try clear hk); (try clear hi); (try clear ho0); have hnb6 := NB1174_1175.out; have hnc6 := NB1175_1174.out; have hcz7_0 : w5.cell? ⟨gb1174, 0, none⟩ = some (.int .i64 0) := (blk_cell BK1174.out 0).trans rfl; have hcz7_1 : w5.cell? ⟨gb1174, 1, none⟩ = some (.slice none 0 0) := (blk_cell BK1174.out 1).trans rfl; have hfz7_0 := blk_frozen BK1174.out 0; have hfz7_1 := blk_frozen BK1174.out 1; obtain ⟨Ao8, co8, eo8⟩ := Kd.R_slice HO1179.out; subst eo8))
 refine bodyPost_ret (results_cell_row rfl _ _ gb1174 26 #[.int .i64 t1176, .slice Ao8 t1177.length co8] (0, 0) _ rfl (by (with_reducible repeat (first | refine blk_drewN ?_ _ | refine blk_drew ?_ | refine blk_alloc ?_ _)); refine blk_put (cs := #[.int .i64 t1176, .slice none 0 0]) ?_ 1 _ rfl; (with_reducible repeat (first | refine blk_drewN ?_ _ | refine blk_drew ?_ | refine blk_alloc ?_ _)); refine blk_put (cs := #[.int .i64 0, .slice none 0 0]) ?_ 0 _ rfl; (with_reducible repeat (first | refine blk_drewN ?_ _ | refine blk_drew ?_ | refine blk_alloc ?_ _)); exact BK1174.out) Try.underlying26 rfl (by kernel_rfl)) rfl ?_
 exact ⟨_, by first | rfl | (simp [errW_none, errW_some] <;> rfl) | (simp [*, errW_none, errW_some] <;> rfl), by (with_reducible repeat (first | apply Kd.R_alloc | apply Kd.R_drewN | apply Kd.R_drew)); exact Kd.R_mono (Kd.R_far (p := ⟨gb1174, 1, none⟩) (Kd.R_far (p := ⟨gb1174, 0, none⟩) (Kd.R_types HO1179.out BK1174.out (by decide)) (fun _ hk => hk.2) (.int .i64 t1176)) (fun _ hk => hk.2) (.slice Ao8 t1177.length co8)) (fun _ hk => trivial), by repeat (first | (with_reducible first | exact HB.out | apply below_alloc | apply pw_below_drewN | apply below_drew1 | refine below_set ?_ (IsS71.ge HI1175.out) | refine below_set ?_ GE1174.out) | exact HB.out)⟩

/-! ### spec_DrawTakeLine: function 48 -/
def spec_DrawTakeLine.f (k : Nat) (l0 : List Int) : Option (Int × List Int) := (spec_DrawIsTaking.f k l0).bind fun bt1183 => (some (bt1183.1, bt1183.2))
theorem spec_DrawTakeLine.mono : ∀ a0 k, LeO (spec_DrawTakeLine.f k a0) (spec_DrawTakeLine.f (k + 1) a0) := by
 intro a0 k
 unfold spec_DrawTakeLine.f
 repeat' first
  | (with_reducible exact spec_DrawIsTaking.mono _ _)
  | (with_reducible exact LeO.refl _)
  | (with_reducible exact LeO.none _)
  | (with_reducible refine LeO.ite ?_ ?_)
  | (with_reducible refine LeO.bind ?_ (fun _ => ?_))
  | exact spec_DrawIsTaking.mono _ _
  | exact LeO.none _
  | refine LeO.ite ?_ ?_
  | refine LeO.bind ?_ (fun _ => ?_)
set_option maxHeartbeats 8000000 in
set_option maxRecDepth 100000 in
theorem spec_DrawTakeLine.calls (k : Nat) (A0 : Option Addr) (c0 : Nat) (l0 : List Int) (r1 : Int) (r2 : List Int) (w : World) (hr0 : Kd.C (Kd.int .u8) w A0 l0.length l0) (hc0 : l0.length ≤ c0) (h : spec_DrawTakeLine.f k l0 = some (r1, r2)) :
 Calls Try.prog 48 #[.slice A0 l0.length c0] w fun e w' => ∃ v1_ : Value, e = .returned (.agg #[.int .i64 r1, v1_]) ∧ Kd.R (Kd.int .i64) 3 w' w.heap.size (fun _ => True) v1_ r2 ∧ Below w.heap.size w w' := by
 have hu26 := Try.underlying26
 have HR0 := Aside0.mk hr0
 have HC0 := Aside0.mk hc0
 clear hr0 hc0
 have HB := Aside0.mk (Below.refl w.heap.size w)
 have H : ((spec_DrawIsTaking.f k l0).bind fun bt1183 => (some (bt1183.1, bt1183.2))) = some (r1, r2) := h
 clear h
 replace H := Option.bind_eq_some_iff.mp H
 obtain ⟨⟨t1183, t1184⟩, A20, H⟩ := H
 (try dsimp only at H)
 have A2 := Aside0.mk A20
 clear A20
 simp only [Option.some.injEq, Prod.mk.injEq] at H
 obtain ⟨rfl, rfl⟩ := H
 go_enter Try.func48, Try.ntmps48
 go_wp2_with (first | ((with_reducible refine gate_dst (N := 2) rfl ?_); refine box_event ?hg (N := 2) ?hd (cs := #[.int .i64 0, .slice none 0 0]) (t := 26) ?hr ?_; (case hd => rfl); (case hg => rfl); (case hr => first | (go_simp; done) | (go_simp; rfl)); intro gb1182 hg w3 hbox hb; have BK1182 := Aside0.mk (hbox); have GW1182 := Aside0.mk ((by rw [hg]; exact (below_size (Bl_ HB)) : w.heap.size ≤ gb1182)); have GE1182 := Aside0.mk ((by rw [hg]; exact (below_size (Bl_ HB)) : w.heap.size ≤ gb1182)); replace HB := Aside0.mk (below_step (Bl_ HB) hb); clear hb hbox hg) | ((with_reducible refine gate_callee (f := 111) rfl ?_); refine gl_ (some 4) rfl rfl Try.func111 (by kernel_rfl) rfl #[.slice A0 l0.length c0] rfl ?_; (with_reducible refine (spec_DrawIsTaking.calls k _ _ l0 t1183 t1184 _ ?side1 ?side2 A2.out).mono ?_); (case side1 => exact Cl_ (Kd.C_below HR0.out HB.out)); (case side2 => exact HC0.out); rintro e w4 ⟨v1185, rfl, ho0, hb⟩; refine ⟨_, rfl, ?_⟩; have HO1186 := Aside0.mk (Kd.R_lower ho0 (below_size (Bl_ HB))); replace BK1182 := blkB_ BK1182 hb; replace HB := Aside0.mk (below_step (Bl_ HB) hb); (try clear hb); (try clear hb2); (try clear hk); (try clear hi); (try clear ho0); have hcz5_0 : w4.cell? ⟨gb1182, 0, none⟩ = some (.int .i64 0) := (blk_cell BK1182.out 0).trans rfl; have hcz5_1 : w4.cell? ⟨gb1182, 1, none⟩ = some (.slice none 0 0) := (blk_cell BK1182.out 1).trans rfl; have hfz5_0 := blk_frozen BK1182.out 0; have hfz5_1 := blk_frozen BK1182.out 1; obtain ⟨Ao6, co6, eo6⟩ := Kd.R_slice HO1186.out; subst eo6))
 refine bodyPost_ret (results_cell_row rfl _ _ gb1182 26 #[.int .i64 t1183, .slice Ao6 t1184.length co6] (0, 0) _ rfl (by (with_reducible repeat (first | refine blk_drewN ?_ _ | refine blk_drew ?_ | refine blk_alloc ?_ _)); refine blk_put (cs := #[.int .i64 t1183, .slice none 0 0]) ?_ 1 _ rfl; (with_reducible repeat (first | refine blk_drewN ?_ _ | refine blk_drew ?_ | refine blk_alloc ?_ _)); refine blk_put (cs := #[.int .i64 0, .slice none 0 0]) ?_ 0 _ rfl; (with_reducible repeat (first | refine blk_drewN ?_ _ | refine blk_drew ?_ | refine blk_alloc ?_ _)); exact BK1182.out) Try.underlying26 rfl (by kernel_rfl)) rfl ?_
 exact ⟨_, by first | rfl | (simp [errW_none, errW_some] <;> rfl) | (simp [*, errW_none, errW_some] <;> rfl), by (with_reducible repeat (first | apply Kd.R_alloc | apply Kd.R_drewN | apply Kd.R_drew)); exact Kd.R_mono (Kd.R_far (p := ⟨gb1182, 1, none⟩) (Kd.R_far (p := ⟨gb1182, 0, none⟩) (Kd.R_types HO1186.out BK1182.out (by decide)) (fun _ hk => hk.2) (.int .i64 t1183)) (fun _ hk => hk.2) (.slice Ao6 t1184.length co6)) (fun _ hk => trivial), Bl_ HB⟩

/-! ### slices_Equal_int_int: function 149 -/
def slices_Equal_int_int.l0 : Nat → List Int → List Int → Int → Int → Option (Bool)
 | 0, _, _, _, _ => none
 | k + 1, x0, x1, x12, x13 => if x13 < x12 then (if 0 ≤ x13 then (if x13 < (x0.length : Int) then (if x13 < (x1.length : Int) then (if (rd x0 x13) = (rd x1 x13) then (slices_Equal_int_int.l0 k x0 x1 x12 (wrap64 (x13 + 1))) else (some false)) else (none)) else (none)) else (none)) else (some true)
def slices_Equal_int_int.f (k : Nat) (l0 : List Int) (l1 : List Int) : Option (Bool) := if (l0.length : Int) = (l1.length : Int) then (slices_Equal_int_int.l0 k l0 l1 (l0.length : Int) 0) else (some false)
theorem slices_Equal_int_int.mono_l : ∀ k, (∀ y0 y1 y2 y3, LeO (slices_Equal_int_int.l0 k y0 y1 y2 y3) (slices_Equal_int_int.l0 (k + 1) y0 y1 y2 y3))
 | 0 => fun _ _ _ _ r h => by simp [slices_Equal_int_int.l0] at h
 | k + 1 => by
  have ih0 := slices_Equal_int_int.mono_l k
  ·intro y0 y1 y2 y3
   unfold slices_Equal_int_int.l0
   repeat' first
   | (with_reducible exact ih0 _ _ _ _)
   | (with_reducible exact LeO.refl _)
   | (with_reducible exact LeO.none _)
   | (with_reducible refine LeO.ite ?_ ?_)
   | (with_reducible refine LeO.bind ?_ (fun _ => ?_))
   | exact ih0 _ _ _ _
   | exact LeO.none _
   | refine LeO.ite ?_ ?_
   | refine LeO.bind ?_ (fun _ => ?_)
theorem slices_Equal_int_int.mono : ∀ a0 a1 k, LeO (slices_Equal_int_int.f k a0 a1) (slices_Equal_int_int.f (k + 1) a0 a1) := by
 intro a0 a1 k
 have ih0 := slices_Equal_int_int.mono_l k
 unfold slices_Equal_int_int.f
 repeat' first
  | (with_reducible exact ih0 _ _ _ _)
  | (with_reducible exact LeO.refl _)
  | (with_reducible exact LeO.none _)
  | (with_reducible refine LeO.ite ?_ ?_)
  | (with_reducible refine LeO.bind ?_ (fun _ => ?_))
  | exact ih0 _ _ _ _
  | exact LeO.none _
  | refine LeO.ite ?_ ?_
  | refine LeO.bind ?_ (fun _ => ?_)
set_option maxHeartbeats 8000000 in
set_option maxRecDepth 100000 in
theorem slices_Equal_int_int.calls (k : Nat) (A0 : Option Addr) (c0 : Nat) (l0 : List Int) (A1 : Option Addr) (c1 : Nat) (l1 : List Int) (r : Bool) (w : World) (hr0 : Kd.C (Kd.int .i64) w A0 l0.length l0) (hc0 : l0.length ≤ c0) (hr1 : Kd.C (Kd.int .i64) w A1 l1.length l1) (hc1 : l1.length ≤ c1) (h : slices_Equal_int_int.f k l0 l1 = some r) :
 Calls Try.prog 149 #[.slice A0 l0.length c0, .slice A1 l1.length c1] w fun e w' => e = .returned (.bool r) ∧ Drawn0 w w' := by
 have HR0 := Aside0.mk hr0
 have HC0 := Aside0.mk hc0
 clear hr0 hc0
 have HR1 := Aside0.mk hr1
 have HC1 := Aside0.mk hc1
 clear hr1 hc1
 have H : (if (l0.length : Int) = (l1.length : Int) then (slices_Equal_int_int.l0 k l0 l1 (l0.length : Int) 0) else (some false)) = some r := h
 clear h
 by_cases c3 : (l0.length : Int) = (l1.length : Int)
 ·rw [if_pos c3] at H
  have c3b0 : ((l0.length : Int) == (l1.length : Int)) = true := beq_iff_eq.mpr c3
  have c3b1 : ((l0.length : Int) != (l1.length : Int)) = false := bne_eq_false_iff_eq.mpr c3
  have c3b2 : (l0.length == l1.length) = true := by first | simpa using c3 | (simp at c3 ⊢; omega)
  clear c3
  have H' := Aside0.mk H
  clear H
  go_enter Try.func149, Try.ntmps149
  go_wp2
  repeat (go_quiet (fail); try go_wp2)
  go_loopg [13] k (fun kq v13 w' => ∃ (x13_1 : Int), v13 = .int .i64 x13_1 ∧ Aside0 (slices_Equal_int_int.l0 kq l0 l1 (l0.length : Int) x13_1 = some r) ∧ Aside0 (kq ≤ k) ∧ Drawn0 w w')
  case atStart => exact ⟨(0), (by first | rfl | (simp; done) | (simp [*]; done)), H', ⟨Nat.le_refl _⟩, by repeat (first | exact Drawn0.refl _ | apply Drawn0.step)⟩
  case round =>
   clear H'
   try clear c1
   try clear p2
   try clear c3
   try clear c3b0
   try clear c3b1
   try clear c3b2
   obtain ⟨x13_1, rfl, HA, HK1, ⟨m1, rfl⟩⟩ := hrel
   cases gk with
   | zero => exact absurd HA.out (by simp [slices_Equal_int_int.l0])
   | succ k1 =>
    have H := HA.out
    clear HA
    simp only [slices_Equal_int_int.l0] at H
    by_cases c4 : x13_1 < (l0.length : Int)
    ·rw [if_pos c4] at H
     have c4b0 : decide (x13_1 < (l0.length : Int)) = true := decide_eq_true c4
     clear c4
     by_cases c5 : 0 ≤ x13_1
     rotate_left
     ·rw [if_neg c5] at H
      exact absurd H (by simp)
     rw [if_pos c5] at H
     have c5b0 : decide (0 ≤ x13_1) = true := decide_eq_true c5
     clear c5
     by_cases c6 : x13_1 < (l0.length : Int)
     rotate_left
     ·rw [if_neg c6] at H
      exact absurd H (by simp)
     rw [if_pos c6] at H
     have c6b0 : decide (x13_1 < (l0.length : Int)) = true := decide_eq_true c6
     clear c6
     by_cases c7 : x13_1 < (l1.length : Int)
     rotate_left
     ·rw [if_neg c7] at H
      exact absurd H (by simp)
     rw [if_pos c7] at H
     have c7b0 : decide (x13_1 < (l1.length : Int)) = true := decide_eq_true c7
     clear c7
     by_cases c8 : (rd l0 x13_1) = (rd l1 x13_1)
     ·rw [if_pos c8] at H
      have c8b0 : ((rd l0 x13_1) == (rd l1 x13_1)) = true := beq_iff_eq.mpr c8
      have c8b1 : ((rd l0 x13_1) != (rd l1 x13_1)) = false := bne_eq_false_iff_eq.mpr c8
      clear c8
      have H' := Aside0.mk H
      clear H
      have p1187 : 0 ≤ (x13_1 : Int) := of_decide_eq_true (by first | (with_reducible assumption) | assumption)
      have q1187 : x13_1 < (l0.length : Int) := of_decide_eq_true (by first | (with_reducible assumption) | assumption)
      obtain ⟨ad1187, e1187, hx1187_0⟩ := Kd.at_int HR0.out x13_1 p1187 q1187
      cases e1187
      replace p1187 := eq_true p1187
      replace q1187 := eq_true q1187
      have p1188 : 0 ≤ (x13_1 : Int) := of_decide_eq_true (by first | (with_reducible assumption) | assumption)
      have q1188 : x13_1 < (l1.length : Int) := of_decide_eq_true (by first | (with_reducible assumption) | assumption)
      obtain ⟨ad1188, e1188, hx1188_0⟩ := Kd.at_int HR1.out x13_1 p1188 q1188
      cases e1188
      replace p1188 := eq_true p1188
      replace q1188 := eq_true q1188
      go_wp2
      repeat (go_quiet (fail); try go_wp2)
      go_roundg k1
      case measure => have := HK1.out; omega
      case rel => exact ⟨(wrap64 (x13_1 + 1)), (by first | rfl | (simp; done) | (simp [*]; done)), H', ⟨by have := HK1.out; omega⟩, by repeat (first | exact Drawn0.refl _ | apply Drawn0.step)⟩
     rw [if_neg c8] at H
     have c8b0 : ((rd l0 x13_1) == (rd l1 x13_1)) = false := beq_eq_false_iff_ne.mpr c8
     have c8b1 : ((rd l0 x13_1) != (rd l1 x13_1)) = true := bne_iff_ne.mpr c8
     obtain rfl := Option.some.inj H
     have p1187 : 0 ≤ (x13_1 : Int) := of_decide_eq_true (by first | (with_reducible assumption) | assumption)
     have q1187 : x13_1 < (l0.length : Int) := of_decide_eq_true (by first | (with_reducible assumption) | assumption)
     obtain ⟨ad1187, e1187, hx1187_0⟩ := Kd.at_int HR0.out x13_1 p1187 q1187
     cases e1187
     replace p1187 := eq_true p1187
     replace q1187 := eq_true q1187
     have p1188 : 0 ≤ (x13_1 : Int) := of_decide_eq_true (by first | (with_reducible assumption) | assumption)
     have q1188 : x13_1 < (l1.length : Int) := of_decide_eq_true (by first | (with_reducible assumption) | assumption)
     obtain ⟨ad1188, e1188, hx1188_0⟩ := Kd.at_int HR1.out x13_1 p1188 q1188
     cases e1188
     replace p1188 := eq_true p1188
     replace q1188 := eq_true q1188
     go_wp2
     repeat (go_quiet (fail); try go_wp2)
     go_ret
     exact ⟨by first | rfl | (simp; done) | (simp [*]; done), by repeat (first | exact Drawn0.refl _ | apply Drawn0.step)⟩
    rw [if_neg c4] at H
    have c4b0 : decide (x13_1 < (l0.length : Int)) = false := decide_eq_false c4
    clear c4
    obtain rfl := Option.some.inj H
    go_wp2
    repeat (go_quiet (fail); try go_wp2)
    go_ret
    exact ⟨by first | rfl | (simp; done) | (simp [*]; done), by repeat (first | exact Drawn0.refl _ | apply Drawn0.step)⟩
 rw [if_neg c3] at H
 have c3b0 : ((l0.length : Int) == (l1.length : Int)) = false := beq_eq_false_iff_ne.mpr c3
 have c3b1 : ((l0.length : Int) != (l1.length : Int)) = true := bne_iff_ne.mpr c3
 have c3b2 : (l0.length == l1.length) = false := by first | simpa using c3 | (simp at c3 ⊢; omega)
 obtain rfl := Option.some.inj H
 go_enter Try.func149, Try.ntmps149
 go_wp2
 repeat (go_quiet (fail); try go_wp2)
 go_ret
 exact ⟨by first | rfl | (simp; done) | (simp [*]; done), by repeat (first | exact Drawn0.refl _ | apply Drawn0.step)⟩

/-! ### impl_identity: function 150 -/
def impl_identity.l0 : Nat → List Int → Int → Int → Option (List Int)
 | 0, _, _, _ => none
 | k + 1, x3, x6, x7 => if x7 < x6 then (if x3.length < 17592186044416 then (impl_identity.l0 k (x3 ++ [x7]) x6 (wrap64 (x7 + 1))) else (none)) else (some x3)
def impl_identity.f (k : Nat) (a0 : Int) : Option (List Int) := impl_identity.l0 k (([] : List Int)) a0 0
theorem impl_identity.mono_l : ∀ k, (∀ y0 y1 y2, LeO (impl_identity.l0 k y0 y1 y2) (impl_identity.l0 (k + 1) y0 y1 y2))
 | 0 => fun _ _ _ r h => by simp [impl_identity.l0] at h
 | k + 1 => by
  have ih0 := impl_identity.mono_l k
  ·intro y0 y1 y2
   unfold impl_identity.l0
   repeat' first
   | (with_reducible exact ih0 _ _ _)
   | (with_reducible exact LeO.refl _)
   | (with_reducible exact LeO.none _)
   | (with_reducible refine LeO.ite ?_ ?_)
   | (with_reducible refine LeO.bind ?_ (fun _ => ?_))
   | exact ih0 _ _ _
   | exact LeO.none _
   | refine LeO.ite ?_ ?_
   | refine LeO.bind ?_ (fun _ => ?_)
theorem impl_identity.mono : ∀ a0 k, LeO (impl_identity.f k a0) (impl_identity.f (k + 1) a0) := by
 intro a0 k
 have ih0 := impl_identity.mono_l k
 unfold impl_identity.f
 repeat' first
  | (with_reducible exact ih0 _ _ _)
  | (with_reducible exact LeO.refl _)
  | (with_reducible exact LeO.none _)
  | (with_reducible refine LeO.ite ?_ ?_)
  | (with_reducible refine LeO.bind ?_ (fun _ => ?_))
  | exact ih0 _ _ _
  | exact LeO.none _
  | refine LeO.ite ?_ ?_
  | refine LeO.bind ?_ (fun _ => ?_)
set_option maxHeartbeats 8000000 in
set_option maxRecDepth 100000 in
theorem impl_identity.calls (k : Nat) (a0 : Int) (r : List Int) (w : World) (h : impl_identity.f k a0 = some r) :
 Calls Try.prog 150 #[.int .i64 a0] w fun e w' => ∃ v0_ : Value, e = .returned (v0_) ∧ Kd.R (Kd.int .i64) 3 w' w.heap.size (fun _ => True) v0_ r ∧ Below w.heap.size w w' := by
 have HB := Aside0.mk (Below.refl w.heap.size w)
 have H : (impl_identity.l0 k (([] : List Int)) a0 0) = some r := h
 clear h
 obtain ⟨y1189, hy1189⟩ : ∃ y_ : List Int, y_ = (([] : List Int)) := ⟨_, rfl⟩
 replace H : (impl_identity.l0 k y1189 a0 0) = some r := by first | (rw [hy1189]; with_reducible exact H) | (have H2_ := (Option.bind_some _ _).symm.trans H; rw [hy1189]; with_reducible exact H2_) | (have H2_ := (Option.bind_some _ _).symm.trans H; with_reducible exact H2_) | with_reducible exact H | (rw [hy1189]; exact H) | exact H
 have Ny1189 := Aside0.mk hy1189
 clear hy1189
 have H' := Aside0.mk H
 clear H
 go_enter Try.func150, Try.ntmps150
 go_wp2_with (first | ((with_reducible refine gate_dst (N := 5) rfl ?_); refine Kd.R_lit (Kd.int .i64) _ 3 ?hg (N := 5) ?hd (xs := ([] : List Int)) (inner := []) (ok := fun _ => True) (okp := fun _ => True) ?hr ?hp (fun _ hk => hk) trivial (Below.refl _ _) (Nat.le_refl _) (by simp) ?_; (case hd => rfl); (case hg => rfl); (case hr => first | (go_simp; done) | (go_simp; rfl)); (case hp => exact (Reps.none _ _)); intro v1190 w2 ho3 hb hg_ hnew_; clear hg_ hnew_; (first | rw [← Ny1189.out] at ho3 | (simp only [Int.reduceToNat] at ho3; rw [← Ny1189.out] at ho3)); have HO1191 := Aside0.mk (Kd.R_lower ho3 (below_size (Bl_ HB))); replace HB := Aside0.mk (below_step (Bl_ HB) hb); clear hb ho3))
 go_loopg [3, 7] k (fun kq v3 v7 w' => ∃ (x3_1 : List Int) (x7_1 : Int), v7 = .int .i64 x7_1 ∧ Aside0 (impl_identity.l0 kq x3_1 a0 x7_1 = some r) ∧ Aside0 (kq ≤ k) ∧ Aside0 (Kd.R (Kd.int .i64) 3 w' w.heap.size (fun _ => True) v3 x3_1) ∧ Aside0 (Below w.heap.size w w'))
 case atStart => exact ⟨(y1189), (0), (by first | rfl | (simp; done) | (simp [*]; done)), H', ⟨Nat.le_refl _⟩, ⟨Rl_ HO1191.out⟩, ⟨Bl_ HB⟩⟩
 case round =>
  clear H'
  try clear c1
  try clear p2
  obtain ⟨x3_1, x7_1, rfl, HA, HK1, HO_3, HB⟩ := hrel
  cases gk with
  | zero => exact absurd HA.out (by simp [impl_identity.l0])
  | succ k1 =>
   have H := HA.out
   clear HA
   simp only [impl_identity.l0] at H
   by_cases c4 : x7_1 < a0
   ·rw [if_pos c4] at H
    have c4b0 : decide (x7_1 < a0) = true := decide_eq_true c4
    clear c4
    by_cases c5 : x3_1.length < 17592186044416
    rotate_left
    ·rw [if_neg c5] at H
     exact absurd H (by simp)
    rw [if_pos c5] at H
    have LMc5 := Aside0.mk c5
    clear c5
    obtain ⟨y1192, hy1192⟩ : ∃ y_ : List Int, y_ = (x3_1 ++ [x7_1]) := ⟨_, rfl⟩
    replace H : (impl_identity.l0 k1 y1192 a0 (wrap64 (x7_1 + 1))) = some r := by first | (rw [hy1192]; with_reducible exact H) | (have H2_ := (Option.bind_some _ _).symm.trans H; rw [hy1192]; with_reducible exact H2_) | (have H2_ := (Option.bind_some _ _).symm.trans H; with_reducible exact H2_) | with_reducible exact H | (rw [hy1192]; exact H) | exact H
    have Ny1192 := Aside0.mk hy1192
    clear hy1192
    have H' := Aside0.mk H
    clear H
    go_wp2_with (first | ((with_reducible refine gate_builtin (b := .append) (xs := #[.tmp 10, .tmp 12]) rfl ?_); at_builtin; refine Kd.R_append (Kd.int .i64) (w0 := w) w.heap.size rfl (.tmp 10) (.tmp 12) 24 3 (.int .i64 0) 8 rfl Try.underlying24 info3 rfl (by decide) (by omega) u3 x3_1 x7_1 [.int .i64 x7_1] (fun _ => True) (fun _ => False) rfl rfl ?aP (fun _ hk => hk.elim) ?aF ?aO ?aB ?aS ?aL ?_; (case aP => exact rfl); (case aB => exact (Bl_ HB)); (case aF => exact (fun _ _ => trivial)); (case aO => exact (Rl_ HO_3.out)); (case aS => exact (below_size (Bl_ HB))); (case aL => have := LMc5.out; omega); intro v1193 w6 ho hb hg hat; rw [← Ny1192.out] at ho; replace HB := Aside0.mk (hb); have HO1194 := Aside0.mk (ho); clear HO_3; clear ho hb hg hat))
    go_roundg k1
    case measure => have := HK1.out; omega
    case rel => exact ⟨(y1192), (wrap64 (x7_1 + 1)), (by first | rfl | (simp; done) | (simp [*]; done)), H', ⟨by have := HK1.out; omega⟩, ⟨Rl_ HO1194.out⟩, ⟨Bl_ HB⟩⟩
   rw [if_neg c4] at H
   have c4b0 : decide (x7_1 < a0) = false := decide_eq_false c4
   clear c4
   obtain rfl := Option.some.inj H
   go_wp2
   go_ret
   exact ⟨_, by first | rfl | (simp [errW_none, errW_some] <;> rfl) | (simp [*, errW_none, errW_some] <;> rfl), by (with_reducible repeat (first | apply Kd.R_alloc | apply Kd.R_drewN | apply Kd.R_drew)); exact HO_3.out, Bl_ HB⟩

/-! ### impl_isHomely: function 142 -/
def impl_isHomely.f (k : Nat) (a0 : Int) (l1 : List Int) : Option (Bool) := (impl_result.f k a0 l1).bind fun t1195 => ((impl_identity.f k a0).bind fun t1198 => ((slices_Equal_int_int.f k t1195 t1198).bind fun t1201 => (some t1201)))
theorem impl_isHomely.mono : ∀ a0 a1 k, LeO (impl_isHomely.f k a0 a1) (impl_isHomely.f (k + 1) a0 a1) := by
 intro a0 a1 k
 unfold impl_isHomely.f
 repeat' first
  | (with_reducible exact impl_identity.mono _ _)
  | (with_reducible exact impl_result.mono _ _ _)
  | (with_reducible exact slices_Equal_int_int.mono _ _ _)
  | (with_reducible exact LeO.refl _)
  | (with_reducible exact LeO.none _)
  | (with_reducible refine LeO.ite ?_ ?_)
  | (with_reducible refine LeO.bind ?_ (fun _ => ?_))
  | exact impl_identity.mono _ _
  | exact impl_result.mono _ _ _
  | exact slices_Equal_int_int.mono _ _ _
  | exact LeO.none _
  | refine LeO.ite ?_ ?_
  | refine LeO.bind ?_ (fun _ => ?_)
set_option maxHeartbeats 8000000 in
set_option maxRecDepth 100000 in
theorem impl_isHomely.calls (k : Nat) (a0 : Int) (A1 : Option Addr) (c1 : Nat) (l1 : List Int) (r : Bool) (w : World) (hr1 : Kd.C (Kd.int .i64) w A1 l1.length l1) (hc1 : l1.length ≤ c1) (h : impl_isHomely.f k a0 l1 = some r) :
 Calls Try.prog 142 #[.int .i64 a0, .slice A1 l1.length c1] w fun e w' => e = .returned (.bool r) ∧ Below w.heap.size w w' := by
 have HR1 := Aside0.mk hr1
 have HC1 := Aside0.mk hc1
 clear hr1 hc1
 have HB := Aside0.mk (Below.refl w.heap.size w)
 have H : ((impl_result.f k a0 l1).bind fun t1195 => ((impl_identity.f k a0).bind fun t1198 => ((slices_Equal_int_int.f k t1195 t1198).bind fun t1201 => (some t1201)))) = some r := h
 clear h
 replace H := Option.bind_eq_some_iff.mp H
 obtain ⟨t1195, A30, H⟩ := H
 (try dsimp only at H)
 have A3 := Aside0.mk A30
 clear A30
 replace H := Option.bind_eq_some_iff.mp H
 obtain ⟨t1198, A40, H⟩ := H
 (try dsimp only at H)
 have A4 := Aside0.mk A40
 clear A40
 replace H := Option.bind_eq_some_iff.mp H
 obtain ⟨t1201, A50, H⟩ := H
 (try dsimp only at H)
 have A5 := Aside0.mk A50
 clear A50
 obtain rfl := Option.some.inj H
 go_enter Try.func142, Try.ntmps142
 go_wp2_with (first | ((with_reducible refine gate_callee (f := 129) rfl ?_); refine gl_ (some 7) rfl rfl Try.func129 (by kernel_rfl) rfl #[.int .i64 a0, .slice A1 l1.length c1] rfl ?_; (with_reducible refine (impl_result.calls k a0 _ _ l1 t1195 _ ?side1 ?side2 A3.out).mono ?_); (case side1 => repeat (first | exact HR1.out | (with_reducible refine Kd.C_alloc ?_ _) | (with_reducible refine Kd.C_drewN ?_ _) | (with_reducible refine Kd.C_drew ?_))); (case side2 => exact HC1.out); rintro e w6 ⟨v1196, rfl, ho0, hb⟩; refine ⟨_, rfl, ?_⟩; have HO1197 := Aside0.mk (Kd.R_lower ho0 (below_size (Bl_ HB))); replace HB := Aside0.mk (below_step (Bl_ HB) hb); (try clear hb); (try clear hb2); (try clear hk); (try clear hi); (try clear ho0)) | ((with_reducible refine gate_callee (f := 150) rfl ?_); refine gl_ (some 9) rfl rfl Try.func150 (by kernel_rfl) rfl #[.int .i64 a0] rfl ?_; (with_reducible refine (impl_identity.calls k a0 t1198 _ A4.out).mono ?_); rintro e w7 ⟨v1199, rfl, ho0, hb⟩; refine ⟨_, rfl, ?_⟩; have HO1200 := Aside0.mk (Kd.R_lower (Kd.R_new' ho0 (Kd.R_lt (Rl_ HO1197.out))) (below_size (Bl_ HB))); replace HO1197 := Aside0.mk (Kd.R_elder' (Rl_ HO1197.out) (Kd.R_base ho0) hb); replace HB := Aside0.mk (below_step (Bl_ HB) hb); (try clear hb); (try clear hb2); (try clear hk); (try clear hi); (try clear ho0); obtain ⟨Ao8, co8, eo8⟩ := Kd.R_slice HO1197.out; subst eo8; obtain ⟨Ao9, co9, eo9⟩ := Kd.R_slice HO1200.out; subst eo9) | ((with_reducible refine gate_callee (f := 149) rfl ?_); refine gl_ (some 10) rfl rfl Try.func149 (by kernel_rfl) rfl #[.slice Ao8 t1195.length co8, .slice Ao9 t1198.length co9] rfl ?_; (with_reducible refine (slices_Equal_int_int.calls k _ _ t1195 _ _ t1198 t1201 _ ?side1 ?side2 ?side3 ?side4 A5.out).mono ?_); (case side1 => exact Cl_ (Kd.R_reads' HO1197.out).2.2); (case side2 => exact (Kd.R_reads' HO1197.out).2.1); (case side3 => exact Cl_ (Kd.R_reads' HO1200.out).2.2); (case side4 => exact (Kd.R_reads' HO1200.out).2.1); rintro e w' ⟨rfl, ⟨nd, rfl⟩⟩; refine ⟨_, rfl, ?_⟩))
 go_ret
 exact ⟨by first | rfl | (simp [errW_none, errW_some] <;> rfl) | (simp [*, errW_none, errW_some] <;> rfl), Bl_ HB⟩

/-! ### impl_isTaking: function 125 -/
def impl_isTaking.f (k : Nat) (a0_0 : Int) (l0_1 : List Int) : Option (Bool) := (impl_isLadder.f a0_0 l0_1).bind fun t1203 => (if t1203 = true then (if (l0_1.length : Int) ≤ 12 then ((impl_isHomely.f k a0_0 l0_1).bind fun t1204 => (some (!t1204))) else (some false)) else (some false))
theorem impl_isTaking.mono : ∀ a0 a1 k, LeO (impl_isTaking.f k a0 a1) (impl_isTaking.f (k + 1) a0 a1) := by
 intro a0 a1 k
 unfold impl_isTaking.f
 repeat' first
  | (with_reducible exact impl_isHomely.mono _ _ _)
  | (with_reducible exact LeO.refl _)
  | (with_reducible exact LeO.none _)
  | (with_reducible refine LeO.ite ?_ ?_)
  | (with_reducible refine LeO.bind ?_ (fun _ => ?_))
  | exact impl_isHomely.mono _ _ _
  | exact LeO.none _
  | refine LeO.ite ?_ ?_
  | refine LeO.bind ?_ (fun _ => ?_)
set_option maxHeartbeats 8000000 in
set_option maxRecDepth 100000 in
theorem impl_isTaking.calls (k : Nat) (a0_0 : Int) (A0_1 : Option Addr) (c0_1 : Nat) (l0_1 : List Int) (r : Bool) (w : World) (hr0_1 : Kd.C (Kd.int .i64) w A0_1 l0_1.length l0_1) (hc0_1 : l0_1.length ≤ c0_1) (h : impl_isTaking.f k a0_0 l0_1 = some r) :
 Calls Try.prog 125 #[.agg #[.int .i64 a0_0, .slice A0_1 l0_1.length c0_1]] w fun e w' => e = .returned (.bool r) ∧ Below w.heap.size w w' := by
 have hu26 := Try.underlying26
 have HR0_1 := Aside0.mk hr0_1
 have HC0_1 := Aside0.mk hc0_1
 clear hr0_1 hc0_1
 have HB := Aside0.mk (Below.refl w.heap.size w)
 have H : ((impl_isLadder.f a0_0 l0_1).bind fun t1203 => (if t1203 = true then (if (l0_1.length : Int) ≤ 12 then ((impl_isHomely.f k a0_0 l0_1).bind fun t1204 => (some (!t1204))) else (some false)) else (some false))) = some r := h
 clear h
 replace H := Option.bind_eq_some_iff.mp H
 obtain ⟨t1203, A20, H⟩ := H
 (try dsimp only at H)
 have A2 := Aside0.mk A20
 clear A20
 by_cases c3 : t1203 = true
 ·subst c3
  rw [if_pos rfl] at H
  by_cases c4 : (l0_1.length : Int) ≤ 12
  ·rw [if_pos c4] at H
   have c4b0 : decide ((l0_1.length : Int) ≤ 12) = true := decide_eq_true c4
   have c4b1 : decide (l0_1.length ≤ 12) = true := decide_eq_true (by omega)
   clear c4
   replace H := Option.bind_eq_some_iff.mp H
   obtain ⟨t1204, A50, H⟩ := H
   (try dsimp only at H)
   have A5 := Aside0.mk A50
   clear A50
   obtain rfl := Option.some.inj H
   go_enter Try.func125, Try.ntmps125
   go_wp2_with (first | ((with_reducible refine gate_dst (N := 1) rfl ?_); (try (refine gate_guard (by rfl) ?_; dsimp only)); refine box_event ?hg (N := 1) ?hd (cs := #[.int .i64 a0_0, .slice A0_1 l0_1.length c0_1]) (t := 26) ?hr ?_; (case hd => rfl); (case hg => rfl); (case hr => first | (go_simp; done) | (go_simp; rfl)); intro gb1202 hg w6 hbox hb; have BK1202 := Aside0.mk (hbox); have GW1202 := Aside0.mk ((by rw [hg]; exact (below_size (Bl_ HB)) : w.heap.size ≤ gb1202)); have GE1202 := Aside0.mk ((by rw [hg]; exact (below_size (Bl_ HB)) : w.heap.size ≤ gb1202)); replace HB := Aside0.mk (below_step (Bl_ HB) hb); clear hb hbox hg; have hcz7_0 : w6.cell? ⟨gb1202, 0, none⟩ = some (.int .i64 a0_0) := (blk_cell BK1202.out 0).trans rfl; have hcz7_1 : w6.cell? ⟨gb1202, 1, none⟩ = some (.slice A0_1 l0_1.length c0_1) := (blk_cell BK1202.out 1).trans rfl; have hfz7_0 := blk_frozen BK1202.out 0; have hfz7_1 := blk_frozen BK1202.out 1) | ((with_reducible refine gate_callee (f := 77) rfl ?_); refine gl_ (some 4) rfl rfl Try.func77 (by kernel_rfl) rfl #[.agg #[.int .i64 a0_0, .slice A0_1 l0_1.length c0_1]] rfl ?_; (with_reducible refine (impl_isLadder.calls a0_0 _ _ l0_1 true _ ?side1 ?side2 A2.out).mono ?_); (case side1 => exact Cl_ (Kd.C_below HR0_1.out HB.out)); (case side2 => exact HC0_1.out); rintro e w8 ⟨rfl, hb⟩; refine ⟨_, rfl, ?_⟩; replace BK1202 := blkB_ BK1202 hb; replace HB := Aside0.mk (below_step (Bl_ HB) hb); (try clear hb); (try clear hb2); (try clear hk); (try clear hi); have hcz9_0 : w8.cell? ⟨gb1202, 0, none⟩ = some (.int .i64 a0_0) := (blk_cell BK1202.out 0).trans rfl; have hcz9_1 : w8.cell? ⟨gb1202, 1, none⟩ = some (.slice A0_1 l0_1.length c0_1) := (blk_cell BK1202.out 1).trans rfl; have hfz9_0 := blk_frozen BK1202.out 0; have hfz9_1 := blk_frozen BK1202.out 1) | (go_at_call 142; (with_reducible refine (impl_isHomely.calls k a0_0 _ _ l0_1 t1204 _ ?side1 ?side2 A5.out).mono ?_); (case side1 => exact Cl_ (Kd.C_below HR0_1.out HB.out)); (case side2 => exact HC0_1.out); rintro e w10 ⟨rfl, hb⟩; replace BK1202 := blkB_ BK1202 hb; replace HB := Aside0.mk (below_step (Bl_ HB) hb); (try clear hb); (try clear hb2); (try clear hk); (try clear hi)))
   go_ret
   exact ⟨by first | rfl | (simp [errW_none, errW_some] <;> rfl) | (simp [*, errW_none, errW_some] <;> rfl), Bl_ HB⟩
  rw [if_neg c4] at H
  have c4b0 : decide ((l0_1.length : Int) ≤ 12) = false := decide_eq_false c4
  have c4b1 : decide (l0_1.length ≤ 12) = false := decide_eq_false (by omega)
  clear c4
  obtain rfl := Option.some.inj H
  go_enter Try.func125, Try.ntmps125
  go_wp2_with (first | ((with_reducible refine gate_dst (N := 1) rfl ?_); (try (refine gate_guard (by rfl) ?_; dsimp only)); refine box_event ?hg (N := 1) ?hd (cs := #[.int .i64 a0_0, .slice A0_1 l0_1.length c0_1]) (t := 26) ?hr ?_; (case hd => rfl); (case hg => rfl); (case hr => first | (go_simp; done) | (go_simp; rfl)); intro gb1202 hg w11 hbox hb; have BK1202 := Aside0.mk (hbox); have GW1202 := Aside0.mk ((by rw [hg]; exact (below_size (Bl_ HB)) : w.heap.size ≤ gb1202)); have GE1202 := Aside0.mk ((by rw [hg]; exact (below_size (Bl_ HB)) : w.heap.size ≤ gb1202)); replace HB := Aside0.mk (below_step (Bl_ HB) hb); clear hb hbox hg; have hcz12_0 : w11.cell? ⟨gb1202, 0, none⟩ = some (.int .i64 a0_0) := (blk_cell BK1202.out 0).trans rfl; have hcz12_1 : w11.cell? ⟨gb1202, 1, none⟩ = some (.slice A0_1 l0_1.length c0_1) := (blk_cell BK1202.out 1).trans rfl; have hfz12_0 := blk_frozen BK1202.out 0; have hfz12_1 := blk_frozen BK1202.out 1) | ((with_reducible refine gate_callee (f := 77) rfl ?_); refine gl_ (some 4) rfl rfl Try.func77 (by kernel_rfl) rfl #[.agg #[.int .i64 a0_0, .slice A0_1 l0_1.length c0_1]] rfl ?_; (with_reducible refine (impl_isLadder.calls a0_0 _ _ l0_1 true _ ?side1 ?side2 A2.out).mono ?_); (case side1 => exact Cl_ (Kd.C_below HR0_1.out HB.out)); (case side2 => exact HC0_1.out); rintro e w13 ⟨rfl, hb⟩; refine ⟨_, rfl, ?_⟩; replace BK1202 := blkB_ BK1202 hb; replace HB := Aside0.mk (below_step (Bl_ HB) hb); (try clear hb); (try clear hb2); (try clear hk); (try clear hi); have hcz14_0 : w13.cell? ⟨gb1202, 0, none⟩ = some (.int .i64 a0_0) := (blk_cell BK1202.out 0).trans rfl; have hcz14_1 : w13.cell? ⟨gb1202, 1, none⟩ = some (.slice A0_1 l0_1.length c0_1) := (blk_cell BK1202.out 1).trans rfl; have hfz14_0 := blk_frozen BK1202.out 0; have hfz14_1 := blk_frozen BK1202.out 1))
  go_ret
  exact ⟨by first | rfl | (simp [errW_none, errW_some] <;> rfl) | (simp [*, errW_none, errW_some] <;> rfl), Bl_ HB⟩
 replace c3 := Bool.eq_false_iff.mpr c3
 subst c3
 rw [if_neg (show ¬ (false = true) by decide)] at H
 obtain rfl := Option.some.inj H
 go_enter Try.func125, Try.ntmps125
 go_wp2_with (first | ((with_reducible refine gate_dst (N := 1) rfl ?_); (try (refine gate_guard (by rfl) ?_; dsimp only)); refine box_event ?hg (N := 1) ?hd (cs := #[.int .i64 a0_0, .slice A0_1 l0_1.length c0_1]) (t := 26) ?hr ?_; (case hd => rfl); (case hg => rfl); (case hr => first | (go_simp; done) | (go_simp; rfl)); intro gb1202 hg w15 hbox hb; have BK1202 := Aside0.mk (hbox); have GW1202 := Aside0.mk ((by rw [hg]; exact (below_size (Bl_ HB)) : w.heap.size ≤ gb1202)); have GE1202 := Aside0.mk ((by rw [hg]; exact (below_size (Bl_ HB)) : w.heap.size ≤ gb1202)); replace HB := Aside0.mk (below_step (Bl_ HB) hb); clear hb hbox hg; have hcz16_0 : w15.cell? ⟨gb1202, 0, none⟩ = some (.int .i64 a0_0) := (blk_cell BK1202.out 0).trans rfl; have hcz16_1 : w15.cell? ⟨gb1202, 1, none⟩ = some (.slice A0_1 l0_1.length c0_1) := (blk_cell BK1202.out 1).trans rfl; have hfz16_0 := blk_frozen BK1202.out 0; have hfz16_1 := blk_frozen BK1202.out 1) | ((with_reducible refine gate_callee (f := 77) rfl ?_); refine gl_ (some 4) rfl rfl Try.func77 (by kernel_rfl) rfl #[.agg #[.int .i64 a0_0, .slice A0_1 l0_1.length c0_1]] rfl ?_; (with_reducible refine (impl_isLadder.calls a0_0 _ _ l0_1 false _ ?side1 ?side2 A2.out).mono ?_); (case side1 => exact Cl_ (Kd.C_below HR0_1.out HB.out)); (case side2 => exact HC0_1.out); rintro e w17 ⟨rfl, hb⟩; refine ⟨_, rfl, ?_⟩; replace BK1202 := blkB_ BK1202 hb; replace HB := Aside0.mk (below_step (Bl_ HB) hb); (try clear hb); (try clear hb2); (try clear hk); (try clear hi)))
 go_ret
 exact ⟨by first | rfl | (simp [errW_none, errW_some] <;> rfl) | (simp [*, errW_none, errW_some] <;> rfl), Bl_ HB⟩

/-! ### impl_gameOf: function 112 -/
/-- the rungs of a set -/
def leftR : List Int → Nat → List Int
  | [], _ => []
  | r :: l, s => if s % 2 = 1 then r :: leftR l (s / 2) else leftR l (s / 2)
theorem leftR_length (l : List Int) : ∀ s, (leftR l s).length ≤ l.length := by
  induction l with
  | nil => intro s; exact Nat.le_refl _
  | cons r l ih => intro s; rw [leftR]; have := ih (s / 2); split <;> simp <;> omega
def clrE (s t : Nat) : Int := Go.bits .andNot .u64 (s : Int) (IntKind.u64.wrap (2 ^ t))
theorem clrE_all : (List.range 12).all (fun t => (List.range 4096).all (fun s => s / 2 ^ t % 2 == 0 || decide (clrE s t = ((s - 2 ^ t : Nat) : Int)))) = true := by decide +kernel
theorem clrE_eq (s t : Nat) (hs : s < 4096) (ht : t < 12) (h : ¬ s / 2 ^ t % 2 = 0) : Go.bits .andNot .u64 (s : Int) (IntKind.u64.wrap (2 ^ t)) = ((s - 2 ^ t : Nat) : Int) := by
  have h1 := List.all_eq_true.1 (List.all_eq_true.1 clrE_all t (by simpa using ht)) s (by simpa using hs)
  rw [Bool.or_eq_true] at h1
  rcases h1 with h1 | h1
  · exact absurd (by simpa using h1) h
  · exact of_decide_eq_true h1
theorem full_bit (n t : Nat) (h : t < n) : ¬ (2 ^ n - 1) / 2 ^ t % 2 = 0 := by
  have h1 : (2 ^ n - 1).testBit t = true := by rw [Nat.testBit_two_pow_sub_one]; exact decide_eq_true h
  rw [Nat.testBit_eq_decide_div_mod_eq] at h1
  have h2 := of_decide_eq_true h1
  omega
theorem skip_stepG {P : Program} {ops : Array Oper} {o : Oper} {a : Act} {Q : Exit → Act → World → Prop} {Kc : Act → World → Prop} {W w1 : World} (hw : Region.wanted o (yielded ops a.tmps) = true) (hN : o.dst = none) (hrun : (execOp a.eval o).run P W = .ok .skip w1) (h : Kc a w1) : if Region.wanted o (yielded ops a.tmps) = true then Oper.wp P o a W Kc Q else Kc (a.put o.dst undef) W := by
  rw [if_pos hw]
  unfold Oper.wp
  rw [hrun]
  show Kc (a.put o.dst undef) w1
  rw [hN]
  exact h
/-- what an outcome reads as -/
def outR : Value → Option (DataW Unit × List MemPlace)
  | .agg cs => match cs.toList with
    | [.bool b, .int .i64 a, .int .i64 m] => some (.agg [.lit (.bool b), .lit (.int .i64 a), .lit (.int .i64 m)], [])
    | _ => none
  | _ => none
/-- a game: its block, and the block of what is known -/
def Game (A : Option Addr) (c : Nat) (a : Int) (l : List Int) (g bm : Nat) (w : World) : Prop := w.heap[g]? = some (.cells #[.int .i64 a, .slice A l.length c, .map (some bm)] 115 (0, 0))
set_option maxHeartbeats 4000000 in
set_option maxRecDepth 100000 in
theorem gameOf_calls (k : Nat) (a : Int) (A0 : Option Addr) (c0 : Nat) (l : List Int) (t : Bool) (w : World) (hr : Kd.C (Kd.int .i64) w A0 l.length l) (hc : l.length ≤ c0) (ht : impl_isTaking.f k a l = some t) :
    Calls Try.prog 112 #[.agg #[.int .i64 a, .slice A0 l.length c0]] w fun e w' => ∃ g bm, e = .returned (.tuple #[.pointer (some ⟨g, 0, none⟩), .bool t]) ∧ Game A0 c0 a l g bm w' ∧ w'.ownsMap Try.prog 91 outR bm 0 (.map []) ∧ g ≠ bm ∧ w.heap.size ≤ g ∧ w.heap.size ≤ bm ∧ Below w.heap.size w w' := by
  have hu28 := Try.underlying26
  have hu69 := Try.underlying115
  have hmm := @run_makeMap Try.prog
  have HR := Aside0.mk hr
  have HC := Aside0.mk hc
  have HT := Aside0.mk ht
  have HB := Aside0.mk (Below.refl w.heap.size w)
  clear hr hc ht
  go_enter Try.func112, Try.ntmps112
  go_wp2_with (first | ((with_reducible refine gate_dst (N := 1) rfl ?_); refine box_event ?hg (N := 1) ?hd (cs := #[.int .i64 a, .slice A0 l.length c0]) (t := 26) ?hr ?_; (case hd => rfl); (case hg => rfl); (case hr => first | (go_simp; done) | (go_simp; rfl)); intro gl hg w1 hbox hb; have n0_ := Aside0.mk (below_step HB.out hb); clear HB; have HB := n0_; clear n0_; have BKL := Aside0.mk hbox; clear hbox hb hg))
  have BK2 := Aside0.mk (blk_drew BKL.out)
  have HB2 := Aside0.mk (below_drew1 HB.out)
  clear BKL HB
  refine start_ (n := 8) (S := fun w' => w'.cell? ⟨gl, 0, none⟩ = some (.int .i64 a) ∧ w'.cell? ⟨gl, 1, none⟩ = some (.slice A0 l.length c0)) (ds := []) #[false, false, false, false, false, false, false, false] (by kernel_rfl) rfl rfl ⟨(blk_cell BK2.out 0).trans rfl, (blk_cell BK2.out 1).trans rfl⟩ (fun hHeld => ?_)
  generalize w1.drew = w2 at BK2 HB2 hHeld ⊢
  refine take_ (i := 0) (N := some 4) (v := ?_) (a' := ?_) #[true, false, false, false, false, false, false, false] rfl rfl (by kernel_rfl) (fun _ _ _ h => h) (Or.inl ⟨by rfl, ?_⟩) hHeld ?_ ?_
  rotate_left
  · rintro w' ⟨s0, s1⟩
    go_simp
    with_reducible rfl
  rotate_left
  · simp only [Act.put, List.setIfInBounds_toArray, List.set_cons_zero, List.set_cons_succ, i64_w, i32_w]
    rfl
  refine take_ (i := 4) (N := some 8) (v := ?_) (a' := ?_) #[true, false, false, false, true, false, false, false] rfl rfl (by kernel_rfl) (fun _ _ _ h => h) (Or.inl ⟨by rfl, ?_⟩) hHeld ?_ ?_
  rotate_left
  · rintro w' ⟨s0, s1⟩
    go_simp
    with_reducible rfl
  rotate_left
  · simp only [Act.put, List.setIfInBounds_toArray, List.set_cons_zero, List.set_cons_succ, i64_w, i32_w]
    rfl
  refine two_ (i := 1) (j := 5) (Ni := some 5) (Nj := some 9) #[true, true, false, false, true, false, false, false] #[true, false, false, false, true, true, false, false] rfl rfl rfl rfl (by kernel_rfl) (by decide) (by decide) (fun K hK => ?_) (fun K hK => ?_)
  · refine event_step (by rfl) (v := .map (some w2.heap.size)) (w1 := w2.alloc (.map #[] 0)) (by go_simp) ?_
    have BK3 := Aside0.mk (blk_alloc BK2.out (.map #[] 0))
    have HB3 := Aside0.mk (below_alloc HB2.out (.map #[] 0))
    have HO := Aside0.mk (World.ownsMap_made w2 Try.prog 91 outR)
    have HZ := Aside0.mk (HB2.out.size)
    generalize w2.alloc (.map #[] 0) = w3 at BK3 HB3 HO ⊢
    generalize w2.heap.size = bm at HO HZ ⊢
    clear BK2 HB2
    refine hK.out _ _ ⟨(blk_cell BK3.out 0).trans rfl, (blk_cell BK3.out 1).trans rfl⟩ (fun hHeld => ?_)
    clear hK K
    refine norm_ (a' := ?_) ?_ ?_
    rotate_left
    · show Act.put _ (some 5) _ = _
      simp only [Act.put, List.setIfInBounds_toArray, List.set_cons_zero, List.set_cons_succ, i64_w, i32_w]
      rfl
    refine pure_ (i := 2) (N := some 6) (v := ?_) (a' := ?_) #[true, true, true, false, true, false, false, false] rfl rfl (by kernel_rfl) (fun _ _ _ h => h) (Or.inl ⟨by rfl, ?_⟩) ?_ ?_
    rotate_left
    · intro w'
      go_simp
      with_reducible rfl
    rotate_left
    · simp only [Act.put, List.setIfInBounds_toArray, List.set_cons_zero, List.set_cons_succ, i64_w, i32_w]
      rfl
    refine two_ (i := 3) (j := 5) (Ni := some 7) (Nj := some 9) #[true, true, true, true, true, false, false, false] #[true, true, true, false, true, true, false, false] rfl rfl rfl rfl (by kernel_rfl) (by decide) (by decide) (fun K hK => ?_) (fun K hK => ?_)
    · refine box_step (by rfl) (N := 7) rfl (cs := #[.int .i64 a, .slice A0 l.length c0, .map (some bm)]) (t := 115) (by first | (go_simp; done) | (go_simp; rfl)) ?_
      intro g hg w4 hbox hb
      have BK4 := Aside0.mk (blk_below BK3.out hb)
      have HB4 := Aside0.mk (below_step HB3.out hb)
      have HO2 := Aside0.mk (World.ownsMap.kept (row := none) HO.out (grown_of_below hb none) (by simp))
      have HG := Aside0.mk (show Game A0 c0 a l g bm w4 from hbox)
      have HGW := Aside0.mk (show w.heap.size ≤ g by rw [hg]; exact HB3.out.size)
      have HNE := Aside0.mk (show g ≠ bm by intro e_; have h1_ := World.ownsMap.lt HO.out; omega)
      clear BK3 HB3 hbox hb hg HO
      refine hK.out _ _ ⟨(blk_cell BK4.out 0).trans rfl, (blk_cell BK4.out 1).trans rfl⟩ (fun hHeld => ?_)
      clear hK K
      refine norm_ (a' := ?_) ?_ ?_
      rotate_left
      · show Act.put _ (some 7) _ = _
        simp only [Act.put, List.setIfInBounds_toArray, List.set_cons_zero, List.set_cons_succ, i64_w, i32_w]
        rfl
      refine one_ (i := 5) (N := some 9) #[true, true, true, true, true, true, false, false] rfl rfl (by kernel_rfl) (by decide) (fun K hK => ?_)
      refine goes_ Try.func125 (by kernel_rfl) rfl #[.agg #[.int .i64 a, .slice A0 l.length c0]] (by rfl) rfl rfl (by (try simp only [List.map_toArray, List.map_cons, List.map_nil]); first | done | rfl) ?_
      with_reducible refine (impl_isTaking.calls k a A0 c0 l t _ (Kd.C_below HR.out HB4.out) HC.out HT.out).mono ?_
      rintro e w5 ⟨rfl, hb⟩
      refine ⟨_, rfl, ?_⟩
      have BK5 := Aside0.mk (blk_below BK4.out hb)
      have HB5 := Aside0.mk (below_step HB4.out hb)
      have HO3 := Aside0.mk (World.ownsMap.kept (row := none) HO2.out (grown_of_below hb none) (by simp)); have HG3 := Aside0.mk (show Game A0 c0 a l g bm _ from blk_below HG.out hb); clear HO2 HG; have HO2 := HO3; have HG := HG3; clear HO3 HG3
      clear BK4 HB4 hb
      refine hK.out _ _ ⟨(blk_cell BK5.out 0).trans rfl, (blk_cell BK5.out 1).trans rfl⟩ (fun hHeld => ?_)
      clear hK K
      refine norm_ (a' := ?_) ?_ ?_
      rotate_left
      · show Act.put _ (some 9) _ = _
        simp only [Act.put, List.setIfInBounds_toArray, List.set_cons_zero, List.set_cons_succ, i64_w, i32_w]
        rfl
      refine pure_ (i := 6) (N := some 2) (v := ?_) (a' := ?_) #[true, true, true, true, true, true, true, false] rfl rfl (by kernel_rfl) (fun _ _ _ h => h) (Or.inl ⟨by rfl, ?_⟩) ?_ ?_
      rotate_left
      · intro w'
        go_simp
        with_reducible rfl
      rotate_left
      · simp only [Act.put, List.setIfInBounds_toArray, List.set_cons_zero, List.set_cons_succ, i64_w, i32_w]
        rfl
      refine pure_ (i := 7) (N := some 3) (v := ?_) (a' := ?_) #[true, true, true, true, true, true, true, true] rfl rfl (by kernel_rfl) (fun _ _ _ h => h) (Or.inl ⟨by rfl, ?_⟩) ?_ ?_
      rotate_left
      · intro w'
        go_simp
        with_reducible rfl
      rotate_left
      · simp only [Act.put, List.setIfInBounds_toArray, List.set_cons_zero, List.set_cons_succ, i64_w, i32_w]
        rfl
      refine done_ (by kernel_rfl) ?_
      try go_wp2
      go_ret2
      exact ⟨g, bm, rfl, HG.out, HO2.out, HNE.out, HGW.out, HZ.out, HB5.out⟩
    · refine goes_ Try.func125 (by kernel_rfl) rfl #[.agg #[.int .i64 a, .slice A0 l.length c0]] (by rfl) rfl rfl (by (try simp only [List.map_toArray, List.map_cons, List.map_nil]); first | done | rfl) ?_
      with_reducible refine (impl_isTaking.calls k a A0 c0 l t _ (Kd.C_below HR.out HB3.out) HC.out HT.out).mono ?_
      rintro e w4 ⟨rfl, hb⟩
      refine ⟨_, rfl, ?_⟩
      have BK4 := Aside0.mk (blk_below BK3.out hb)
      have HB4 := Aside0.mk (below_step HB3.out hb)
      have HO3 := Aside0.mk (World.ownsMap.kept (row := none) HO.out (grown_of_below hb none) (by simp)); clear HO; have HO := HO3; clear HO3
      clear BK3 HB3 hb
      refine hK.out _ _ ⟨(blk_cell BK4.out 0).trans rfl, (blk_cell BK4.out 1).trans rfl⟩ (fun hHeld => ?_)
      clear hK K
      refine norm_ (a' := ?_) ?_ ?_
      rotate_left
      · show Act.put _ (some 9) _ = _
        simp only [Act.put, List.setIfInBounds_toArray, List.set_cons_zero, List.set_cons_succ, i64_w, i32_w]
        rfl
      refine one_ (i := 3) (N := some 7) #[true, true, true, true, true, true, false, false] rfl rfl (by kernel_rfl) (by decide) (fun K hK => ?_)
      refine box_step (by rfl) (N := 7) rfl (cs := #[.int .i64 a, .slice A0 l.length c0, .map (some bm)]) (t := 115) (by first | (go_simp; done) | (go_simp; rfl)) ?_
      intro g hg w5 hbox hb
      have BK5 := Aside0.mk (blk_below BK4.out hb)
      have HB5 := Aside0.mk (below_step HB4.out hb)
      have HO2 := Aside0.mk (World.ownsMap.kept (row := none) HO.out (grown_of_below hb none) (by simp))
      have HG := Aside0.mk (show Game A0 c0 a l g bm w5 from hbox)
      have HGW := Aside0.mk (show w.heap.size ≤ g by rw [hg]; exact HB4.out.size)
      have HNE := Aside0.mk (show g ≠ bm by intro e_; have h1_ := World.ownsMap.lt HO.out; omega)
      clear BK4 HB4 hbox hb hg HO
      refine hK.out _ _ ⟨(blk_cell BK5.out 0).trans rfl, (blk_cell BK5.out 1).trans rfl⟩ (fun hHeld => ?_)
      clear hK K
      refine norm_ (a' := ?_) ?_ ?_
      rotate_left
      · show Act.put _ (some 7) _ = _
        simp only [Act.put, List.setIfInBounds_toArray, List.set_cons_zero, List.set_cons_succ, i64_w, i32_w]
        rfl
      refine pure_ (i := 6) (N := some 2) (v := ?_) (a' := ?_) #[true, true, true, true, true, true, true, false] rfl rfl (by kernel_rfl) (fun _ _ _ h => h) (Or.inl ⟨by rfl, ?_⟩) ?_ ?_
      rotate_left
      · intro w'
        go_simp
        with_reducible rfl
      rotate_left
      · simp only [Act.put, List.setIfInBounds_toArray, List.set_cons_zero, List.set_cons_succ, i64_w, i32_w]
        rfl
      refine pure_ (i := 7) (N := some 3) (v := ?_) (a' := ?_) #[true, true, true, true, true, true, true, true] rfl rfl (by kernel_rfl) (fun _ _ _ h => h) (Or.inl ⟨by rfl, ?_⟩) ?_ ?_
      rotate_left
      · intro w'
        go_simp
        with_reducible rfl
      rotate_left
      · simp only [Act.put, List.setIfInBounds_toArray, List.set_cons_zero, List.set_cons_succ, i64_w, i32_w]
        rfl
      refine done_ (by kernel_rfl) ?_
      try go_wp2
      go_ret2
      exact ⟨g, bm, rfl, HG.out, HO2.out, HNE.out, HGW.out, HZ.out, HB5.out⟩
  · refine goes_ Try.func125 (by kernel_rfl) rfl #[.agg #[.int .i64 a, .slice A0 l.length c0]] (by rfl) rfl rfl (by (try simp only [List.map_toArray, List.map_cons, List.map_nil]); first | done | rfl) ?_
    with_reducible refine (impl_isTaking.calls k a A0 c0 l t _ (Kd.C_below HR.out HB2.out) HC.out HT.out).mono ?_
    rintro e w3 ⟨rfl, hb⟩
    refine ⟨_, rfl, ?_⟩
    have BK3 := Aside0.mk (blk_below BK2.out hb)
    have HB3 := Aside0.mk (below_step HB2.out hb)
    skip
    clear BK2 HB2 hb
    refine hK.out _ _ ⟨(blk_cell BK3.out 0).trans rfl, (blk_cell BK3.out 1).trans rfl⟩ (fun hHeld => ?_)
    clear hK K
    refine norm_ (a' := ?_) ?_ ?_
    rotate_left
    · show Act.put _ (some 9) _ = _
      simp only [Act.put, List.setIfInBounds_toArray, List.set_cons_zero, List.set_cons_succ, i64_w, i32_w]
      rfl
    refine one_ (i := 1) (N := some 5) #[true, true, false, false, true, true, false, false] rfl rfl (by kernel_rfl) (by decide) (fun K hK => ?_)
    refine event_step (by rfl) (v := .map (some w3.heap.size)) (w1 := w3.alloc (.map #[] 0)) (by go_simp) ?_
    have BK4 := Aside0.mk (blk_alloc BK3.out (.map #[] 0))
    have HB4 := Aside0.mk (below_alloc HB3.out (.map #[] 0))
    have HO := Aside0.mk (World.ownsMap_made w3 Try.prog 91 outR)
    have HZ := Aside0.mk (HB3.out.size)
    generalize w3.alloc (.map #[] 0) = w4 at BK4 HB4 HO ⊢
    generalize w3.heap.size = bm at HO HZ ⊢
    clear BK3 HB3
    refine hK.out _ _ ⟨(blk_cell BK4.out 0).trans rfl, (blk_cell BK4.out 1).trans rfl⟩ (fun hHeld => ?_)
    clear hK K
    refine norm_ (a' := ?_) ?_ ?_
    rotate_left
    · show Act.put _ (some 5) _ = _
      simp only [Act.put, List.setIfInBounds_toArray, List.set_cons_zero, List.set_cons_succ, i64_w, i32_w]
      rfl
    refine pure_ (i := 2) (N := some 6) (v := ?_) (a' := ?_) #[true, true, true, false, true, true, false, false] rfl rfl (by kernel_rfl) (fun _ _ _ h => h) (Or.inl ⟨by rfl, ?_⟩) ?_ ?_
    rotate_left
    · intro w'
      go_simp
      with_reducible rfl
    rotate_left
    · simp only [Act.put, List.setIfInBounds_toArray, List.set_cons_zero, List.set_cons_succ, i64_w, i32_w]
      rfl
    refine one_ (i := 3) (N := some 7) #[true, true, true, true, true, true, false, false] rfl rfl (by kernel_rfl) (by decide) (fun K hK => ?_)
    refine box_step (by rfl) (N := 7) rfl (cs := #[.int .i64 a, .slice A0 l.length c0, .map (some bm)]) (t := 115) (by first | (go_simp; done) | (go_simp; rfl)) ?_
    intro g hg w5 hbox hb
    have BK5 := Aside0.mk (blk_below BK4.out hb)
    have HB5 := Aside0.mk (below_step HB4.out hb)
    have HO2 := Aside0.mk (World.ownsMap.kept (row := none) HO.out (grown_of_below hb none) (by simp))
    have HG := Aside0.mk (show Game A0 c0 a l g bm w5 from hbox)
    have HGW := Aside0.mk (show w.heap.size ≤ g by rw [hg]; exact HB4.out.size)
    have HNE := Aside0.mk (show g ≠ bm by intro e_; have h1_ := World.ownsMap.lt HO.out; omega)
    clear BK4 HB4 hbox hb hg HO
    refine hK.out _ _ ⟨(blk_cell BK5.out 0).trans rfl, (blk_cell BK5.out 1).trans rfl⟩ (fun hHeld => ?_)
    clear hK K
    refine norm_ (a' := ?_) ?_ ?_
    rotate_left
    · show Act.put _ (some 7) _ = _
      simp only [Act.put, List.setIfInBounds_toArray, List.set_cons_zero, List.set_cons_succ, i64_w, i32_w]
      rfl
    refine pure_ (i := 6) (N := some 2) (v := ?_) (a' := ?_) #[true, true, true, true, true, true, true, false] rfl rfl (by kernel_rfl) (fun _ _ _ h => h) (Or.inl ⟨by rfl, ?_⟩) ?_ ?_
    rotate_left
    · intro w'
      go_simp
      with_reducible rfl
    rotate_left
    · simp only [Act.put, List.setIfInBounds_toArray, List.set_cons_zero, List.set_cons_succ, i64_w, i32_w]
      rfl
    refine pure_ (i := 7) (N := some 3) (v := ?_) (a' := ?_) #[true, true, true, true, true, true, true, true] rfl rfl (by kernel_rfl) (fun _ _ _ h => h) (Or.inl ⟨by rfl, ?_⟩) ?_ ?_
    rotate_left
    · intro w'
      go_simp
      with_reducible rfl
    rotate_left
    · simp only [Act.put, List.setIfInBounds_toArray, List.set_cons_zero, List.set_cons_succ, i64_w, i32_w]
      rfl
    refine done_ (by kernel_rfl) ?_
    try go_wp2
    go_ret2
    exact ⟨g, bm, rfl, HG.out, HO2.out, HNE.out, HGW.out, HZ.out, HB5.out⟩


/-! ### impl_taking_full: function 113 -/
theorem pow20 (n : Nat) (h : n ≤ 20) : 2 ^ n ≤ 1048576 := Nat.le_trans (Nat.pow_le_pow_right (n := 2) (by omega) h) (by decide)
theorem wrapU (m : Nat) (h : m ≤ 4611686018427387904) : IntKind.u64.wrap (m : Int) = (m : Int) := by
  simp [IntKind.wrap, IntKind.bits, IntKind.signed]
  omega
theorem wrapU_of {x : Int} {m : Nat} (hx : x = (m : Int)) (h : m ≤ 4611686018427387904) : IntKind.u64.wrap x = (m : Int) := by rw [hx, wrapU m h]
theorem powI (n : Nat) : ((2 : Int) ^ n) = ((2 ^ n : Nat) : Int) := by push_cast; rfl
set_option maxHeartbeats 4000000 in
set_option maxRecDepth 100000 in
theorem full_calls (a : Int) (A0 : Option Addr) (c0 : Nat) (l : List Int) (hn : l.length ≤ 20) (g bm : Nat) (w : World) (hg : Game A0 c0 a l g bm w) :
    Calls Try.prog 113 #[.pointer (some ⟨g, 0, none⟩)] w fun e w' => e = .returned (.int .u64 ((2 ^ l.length - 1 : Nat) : Int)) ∧ Drawn0 w w' := by
  have hu28 := Try.underlying26
  have hu69 := Try.underlying115
  have hc1 : w.cell? ⟨g, 1, none⟩ = some (.slice A0 l.length c0) := (blk_cell hg 1).trans rfl
  have hv : IntKind.u64.wrap (IntKind.u64.wrap ((2 : Int) ^ l.length) - 1) = ((2 ^ l.length - 1 : Nat) : Int) := by
    have hp := pow20 l.length hn
    have hp1 : 1 ≤ 2 ^ l.length := Nat.one_le_two_pow
    rw [wrapU_of (powI l.length) (by omega)]
    exact wrapU_of (by omega) (by omega)
  have HVV := Lib.hid hv
  clear hg hv
  go_enter Try.func113, Try.ntmps113
  go_wp2
  go_ret
  exact ⟨by rw [← HVV.out]; rfl, Drawn0.refl _⟩


/-! ### impl_taking_left: function 126 -/
theorem leftR_drop (l : List Int) (s i : Nat) (h : i < l.length) : leftR (l.drop i) (s / 2 ^ i) = if s / 2 ^ i % 2 = 1 then l[i] :: leftR (l.drop (i + 1)) (s / 2 ^ (i + 1)) else leftR (l.drop (i + 1)) (s / 2 ^ (i + 1)) := by
  rw [List.drop_eq_getElem_cons h, leftR, Nat.div_div_eq_div_mul, ← Nat.pow_succ]
theorem and_oneU (m : Nat) (h : m < 4611686018427387904) : Go.bits .and .u64 (m : Int) 1 = ((m % 2 : Nat) : Int) := by
  have h := bits_mask .u64 62 (by decide) (fun n h0 h1 => by simp [IntKind.wrap, IntKind.bits, IntKind.signed]; omega) 1 (by decide) (m : Int) (by omega) (by omega)
  have e : ((2 : Int) ^ 1 - 1) = 1 := by decide
  have e2 : ((2 : Int) ^ 1) = 2 := by decide
  rw [e, e2] at h
  rw [h]
  omega
set_option maxHeartbeats 4000000 in
set_option maxRecDepth 100000 in
theorem left_calls (a : Int) (A0 : Option Addr) (c0 : Nat) (l : List Int) (hn : l.length ≤ 20) (s : Nat) (hs : s ≤ 1048576) (g bm : Nat) (w : World) (hg : Game A0 c0 a l g bm w) (hr : Kd.C (Kd.int .i64) w A0 l.length l) (hc : l.length ≤ c0) :
    Calls Try.prog 126 #[.pointer (some ⟨g, 0, none⟩), .int .u64 (s : Int)] w fun e w' => ∃ v, e = .returned v ∧ Kd.R (Kd.int .i64) 3 w' w.heap.size (fun _ => True) v (leftR l s) ∧ Below w.heap.size w w' := by
  have hu28 := Try.underlying26
  have hu69 := Try.underlying115
  have HG := Aside0.mk hg
  have HR0 := Aside0.mk hr
  have HC0 := Aside0.mk hc
  have HN := Lib.hid hn
  have HSS := Lib.hid hs
  have HB := Aside0.mk (Below.refl w.heap.size w)
  clear hg hr hc hn hs
  go_enter Try.func126, Try.ntmps126
  go_wp2_with (first | ((with_reducible refine gate_dst (N := 8) rfl ?_); refine Kd.R_lit (Kd.int .i64) _ 3 ?hg (N := 8) ?hd (xs := ([] : List (Int))) (inner := []) (ok := fun _ => True) (okp := fun _ => True) ?hr ?hp (fun _ hk => hk) trivial (Below.refl _ _) (Nat.le_refl _) (by simp) ?_; (case hd => rfl); (case hg => rfl); (case hr => first | (go_simp; done) | (go_simp; rfl)); (case hp => exact (Reps.none _ _)); intro vo wo ho8 hb hg_ hnew_; clear hg_ hnew_; have HR := Aside0.mk (show Kd.R (Kd.int .i64) 3 wo w.heap.size (fun _ => True) vo [] from ho8); have n0_ := Aside0.mk (below_step HB.out hb); clear HB; have HB := n0_; clear n0_; have HG2 := Aside0.mk (show Game A0 c0 a l g bm wo from blk_below HG.out hb); clear ho8 hb; have hc1 : wo.cell? ⟨g, 1, none⟩ = some (.slice A0 l.length c0) := (blk_cell HG2.out 1).trans rfl))
  go_loopg [5, 15] l.length (fun gg v5 v15 wi => ∃ (i : Nat) (acc : List Int), i ≤ l.length ∧ l.length - i ≤ gg ∧ v15 = .int .i64 (i : Int) ∧ Aside0 (acc ++ leftR (l.drop i) (s / 2 ^ i) = leftR l s) ∧ Aside0 (acc.length ≤ i) ∧ Aside0 (Kd.R (Kd.int .i64) 3 wi w.heap.size (fun _ => True) v5 acc) ∧ Aside0 (Below w.heap.size w wi))
  case atStart => exact ⟨0, [], Nat.zero_le _, by omega, rfl, ⟨by simp⟩, ⟨Nat.le_refl _⟩, ⟨HR.out⟩, ⟨HB.out⟩⟩
  case round =>
    clear HR HB hc1
    obtain ⟨i, acc, hi, hgg, rfl, HA, HAL, HR, HB⟩ := hrel
    by_cases hlt : i < l.length
    · have d1 : decide ((i : Int) < (l.length : Int)) = true := decide_eq_true (by omega)
      have p1 : 0 ≤ ((i : Nat) : Int) := by omega
      have q1 : ((i : Nat) : Int) < (l.length : Int) := by omega
      obtain ⟨ad1, e1, hx1_0⟩ := Kd.at_int HR0.out (i : Int) p1 q1
      cases e1
      obtain ⟨y, hy⟩ : ∃ y, l[i] = y := ⟨_, rfl⟩
      have hrd : rd l (i : Int) = y := by rw [← hy]; unfold rd; simp [hlt]
      rw [hrd, show ((i : Int)).toNat = i from rfl] at hx1_0
      replace hx1_0 := (HB.out.cell (World.block_lt_of_cell? w _ hx1_0)).trans hx1_0
      have ha := HA.out
      rw [leftR_drop l s i hlt, hy] at ha
      have hsm : s < 4611686018427387904 := by have h1 := HSS.out; omega
      have e23 : ((s : Int) / 2 ^ min i 64) = (s : Int) / 2 ^ i := by rw [Nat.min_eq_left (by have := HN.out; omega)]
      obtain ⟨x, hx⟩ : ∃ x : Int, x = ((s / 2 ^ i % 2 : Nat) : Int) := ⟨_, rfl⟩
      have e24 : Go.bits .and .u64 ((s : Int) / 2 ^ i) 1 = x := by
        have h1 := and_oneU (s / 2 ^ i) (Nat.lt_of_le_of_lt (Nat.div_le_self _ _) hsm)
        have h2 := shr_nat s i (by have := HN.out; omega)
        rw [e23] at h2
        rw [h2, h1, hx]
      have HXX := Lib.hid hx
      have HI := Lib.hid hlt
      have HWI := Lib.hid (show wrap64 ((i : Int) + 1) = ((i + 1 : Nat) : Int) by have := HN.out; clear e23 e24; unfold wrap64; omega)
      replace p1 := eq_true p1
      replace q1 := eq_true q1
      clear hrd hy hlt HA hi hsm hx
      by_cases hx1 : x = 1
      · rw [if_pos (by have := HXX.out; omega)] at ha
        have d2 : (x == 1) = true := by simp [hx1]
        have HA := Aside0.mk (show (acc ++ [y]) ++ leftR (l.drop (i + 1)) (s / 2 ^ (i + 1)) = leftR l s by rw [← ha, List.append_assoc]; rfl)
        clear ha hx1
        go_wp2_with (first | ((with_reducible refine gate_builtin (b := .append) (xs := #[.tmp 25, .tmp 27]) rfl ?_); at_builtin; refine Kd.R_append (Kd.int .i64) (w0 := w) w.heap.size rfl (.tmp 25) (.tmp 27) 24 3 (.int .i64 0) 8 rfl Try.underlying24 info3 rfl (by decide) (by omega) u5 acc y [.int .i64 y] (fun _ => True) (fun _ => False) rfl rfl ?aP (fun _ hk => hk.elim) ?aF ?aO ?aB ?aS ?aL ?_; (case aP => exact rfl); (case aB => exact (by repeat (first | (with_reducible first | exact HB.out | apply below_alloc | apply pw_below_drewN | apply below_drew1) | exact HB.out))); (case aF => exact (fun k_ hk => trivial)); (case aO => exact (by (with_reducible repeat (first | apply Kd.R_alloc | apply Kd.R_drewN | apply Kd.R_drew)); exact HR.out)); (case aS => exact (below_size (by repeat (first | (with_reducible first | exact HB.out | apply below_alloc | apply pw_below_drewN | apply below_drew1) | exact HB.out)))); (case aL => exact (by have := HN.out; have := HI.out; have := HAL.out; omega)); intro v2 w2 ho hb hg hat; clear HR HB; have HR := Aside0.mk ho; have HB := Aside0.mk hb; clear ho hb hg hat))
        go_roundg (l.length - (i + 1))
        case measure => have := HI.out; omega
        case rel => exact ⟨i + 1, acc ++ [y], HI.out, Nat.le_refl _, by rw [← HWI.out], HA, ⟨by rw [List.length_append]; have := HAL.out; simp; omega⟩, HR, HB⟩
      · rw [if_neg (by have := HXX.out; omega)] at ha
        have d2 : (x == 1) = false := by simp [hx1]
        have HA := Aside0.mk ha
        clear ha hx1
        go_wp2
        go_roundg (l.length - (i + 1))
        case measure => have := HI.out; omega
        case rel => exact ⟨i + 1, acc, HI.out, Nat.le_refl _, by rw [← HWI.out], HA, ⟨by have := HAL.out; omega⟩, ⟨(by (with_reducible repeat (first | apply Kd.R_alloc | apply Kd.R_drewN | apply Kd.R_drew)); exact HR.out)⟩, ⟨(by repeat (first | (with_reducible first | exact HB.out | apply below_alloc | apply pw_below_drewN | apply below_drew1) | exact HB.out))⟩⟩
    · have d1 : decide ((i : Int) < (l.length : Int)) = false := decide_eq_false (by omega)
      obtain rfl : i = l.length := by omega
      have ha := HA.out
      rw [List.drop_length, leftR, List.append_nil] at ha
      have HAA := Aside0.mk ha
      clear ha HA hlt hi
      go_wp2
      go_ret
      exact ⟨_, rfl, by rw [← HAA.out]; exact HR.out, HB.out⟩


/-! ### impl_taking_isOver: function 114 -/
set_option maxHeartbeats 4000000 in
set_option maxRecDepth 100000 in
theorem isOver_calls (k : Nat) (a : Int) (A0 : Option Addr) (c0 : Nat) (l : List Int) (hn : l.length ≤ 20) (s : Nat) (hs : s ≤ 1048576) (b : Bool) (g bm : Nat) (w : World) (hg : Game A0 c0 a l g bm w) (hr : Kd.C (Kd.int .i64) w A0 l.length l) (hc : l.length ≤ c0) (hb : impl_isHomely.f k a (leftR l s) = some b) :
    Calls Try.prog 114 #[.pointer (some ⟨g, 0, none⟩), .int .u64 (s : Int)] w fun e w' => e = .returned (.bool b) ∧ Below w.heap.size w w' := by
  have hu28 := Try.underlying26
  have hu69 := Try.underlying115
  have HG := Aside0.mk (show Game A0 c0 a l g bm w.drew from blk_drew hg)
  have HR := Aside0.mk (Kd.C_drew hr)
  have HC := Aside0.mk hc
  have HN := Lib.hid hn
  have HSS := Lib.hid hs
  have HH := Aside0.mk hb
  have HB := Aside0.mk (below_drew1 (Below.refl w.heap.size w))
  clear hg hr hc hn hs hb
  go_enter Try.func114, Try.ntmps114
  try go_wp2
  refine start_ (n := 10) (S := fun w' => w'.cell? ⟨g, 0, none⟩ = some (.int .i64 a)) (ds := []) #[false, false, false, false, false, false, false, false, false, false] (by kernel_rfl) rfl rfl ((blk_cell HG.out 0).trans rfl) (fun hHeld => ?_)
  generalize w.drew = w1 at HG HR HB hHeld ⊢
  refine pure_ (i := 0) (N := some 5) (v := ?_) (a' := ?_) #[true, false, false, false, false, false, false, false, false, false] rfl rfl (by kernel_rfl) (fun _ _ _ h => h) (Or.inl ⟨by rfl, ?_⟩) ?_ ?_
  rotate_left
  · intro w'
    go_simp
    with_reducible rfl
  rotate_left
  · simp only [Act.put, List.setIfInBounds_toArray, List.set_cons_zero, List.set_cons_succ, i64_w, i32_w]
    rfl
  refine pure_ (i := 1) (N := some 6) (v := ?_) (a' := ?_) #[true, true, false, false, false, false, false, false, false, false] rfl rfl (by kernel_rfl) (fun _ _ _ h => h) (Or.inl ⟨by rfl, ?_⟩) ?_ ?_
  rotate_left
  · intro w'
    go_simp
    with_reducible rfl
  rotate_left
  · simp only [Act.put, List.setIfInBounds_toArray, List.set_cons_zero, List.set_cons_succ, i64_w, i32_w]
    rfl
  refine pure_ (i := 2) (N := some 7) (v := ?_) (a' := ?_) #[true, true, true, false, false, false, false, false, false, false] rfl rfl (by kernel_rfl) (fun _ _ _ h => h) (Or.inl ⟨by rfl, ?_⟩) ?_ ?_
  rotate_left
  · intro w'
    go_simp
    with_reducible rfl
  rotate_left
  · simp only [Act.put, List.setIfInBounds_toArray, List.set_cons_zero, List.set_cons_succ, i64_w, i32_w]
    rfl
  refine pure_ (i := 3) (N := some 8) (v := ?_) (a' := ?_) #[true, true, true, true, false, false, false, false, false, false] rfl rfl (by kernel_rfl) (fun _ _ _ h => h) (Or.inl ⟨by rfl, ?_⟩) ?_ ?_
  rotate_left
  · intro w'
    go_simp
    with_reducible rfl
  rotate_left
  · simp only [Act.put, List.setIfInBounds_toArray, List.set_cons_zero, List.set_cons_succ, i64_w, i32_w]
    rfl
  refine take_ (i := 4) (N := some 9) (v := ?_) (a' := ?_) #[true, true, true, true, true, false, false, false, false, false] rfl rfl (by kernel_rfl) (fun _ _ _ h => h) (Or.inl ⟨by rfl, ?_⟩) hHeld ?_ ?_
  rotate_left
  · rintro w' s0
    go_simp
    with_reducible rfl
  rotate_left
  · simp only [Act.put, List.setIfInBounds_toArray, List.set_cons_zero, List.set_cons_succ, i64_w, i32_w]
    rfl
  refine pure_ (i := 5) (N := some 10) (v := ?_) (a' := ?_) #[true, true, true, true, true, true, false, false, false, false] rfl rfl (by kernel_rfl) (fun _ _ _ h => h) (Or.inl ⟨by rfl, ?_⟩) ?_ ?_
  rotate_left
  · intro w'
    go_simp
    with_reducible rfl
  rotate_left
  · simp only [Act.put, List.setIfInBounds_toArray, List.set_cons_zero, List.set_cons_succ, i64_w, i32_w]
    rfl
  refine pure_ (i := 6) (N := some 11) (v := ?_) (a' := ?_) #[true, true, true, true, true, true, true, false, false, false] rfl rfl (by kernel_rfl) (fun _ _ _ h => h) (Or.inl ⟨by rfl, ?_⟩) ?_ ?_
  rotate_left
  · intro w'
    go_simp
    with_reducible rfl
  rotate_left
  · simp only [Act.put, List.setIfInBounds_toArray, List.set_cons_zero, List.set_cons_succ, i64_w, i32_w]
    rfl
  refine one_ (i := 7) (N := some 12) #[true, true, true, true, true, true, true, true, false, false] rfl rfl (by kernel_rfl) (by decide) (fun K hK => ?_)
  refine goes_ Try.func126 (by kernel_rfl) rfl #[.pointer (some ⟨g, 0, none⟩), .int .u64 (s : Int)] (by rfl) rfl rfl (by (try simp only [List.map_toArray, List.map_cons, List.map_nil]); first | done | rfl | (simp only [List.length_drop, List.length_take]; rfl)) ?_
  with_reducible refine (left_calls a A0 c0 l HN.out s HSS.out g bm _ HG.out HR.out HC.out).mono ?_
  rintro e w2 ⟨v, rfl, ho, hb⟩
  refine ⟨_, rfl, ?_⟩
  have HG2 := Aside0.mk (show Game A0 c0 a l g bm w2 from blk_below HG.out hb)
  have HO := Aside0.mk ho
  have HB2 := Aside0.mk (below_step HB.out hb)
  clear HG HR HB ho hb
  obtain ⟨Al, cl, el⟩ := Kd.R_slice HO.out
  subst el
  refine hK.out _ _ ((blk_cell HG2.out 0).trans rfl) (fun hHeld => ?_)
  clear hK K
  refine norm_ (a' := ?_) ?_ ?_
  rotate_left
  · show Act.put _ (some 12) _ = _
    simp only [Act.put, List.setIfInBounds_toArray, List.set_cons_zero, List.set_cons_succ, i64_w, i32_w]
    rfl
  refine one_ (i := 8) (N := some 13) #[true, true, true, true, true, true, true, true, true, false] rfl rfl (by kernel_rfl) (by decide) (fun K hK => ?_)
  refine goes_ Try.func142 (by kernel_rfl) rfl #[.int .i64 a, .slice Al (leftR l s).length cl] (by rfl) rfl rfl (by (try simp only [List.map_toArray, List.map_cons, List.map_nil]); first | done | rfl | (simp only [List.length_drop, List.length_take]; rfl)) ?_
  with_reducible refine (impl_isHomely.calls k a _ _ (leftR l s) b _ (Kd.R_reads' HO.out).2.2 (Kd.R_reads' HO.out).2.1 HH.out).mono ?_
  rintro e w3 ⟨rfl, hb⟩
  refine ⟨_, rfl, ?_⟩
  have HG3 := Aside0.mk (show Game A0 c0 a l g bm w3 from blk_below HG2.out hb)
  have HB3 := Aside0.mk (below_step HB2.out hb)
  clear HG2 HB2 hb
  refine hK.out _ _ ((blk_cell HG3.out 0).trans rfl) (fun hHeld => ?_)
  clear hK K
  refine norm_ (a' := ?_) ?_ ?_
  rotate_left
  · show Act.put _ (some 13) _ = _
    simp only [Act.put, List.setIfInBounds_toArray, List.set_cons_zero, List.set_cons_succ, i64_w, i32_w]
    rfl
  refine pure_ (i := 9) (N := some 4) (v := ?_) (a' := ?_) #[true, true, true, true, true, true, true, true, true, true] rfl rfl (by kernel_rfl) (fun _ _ _ h => h) (Or.inl ⟨by rfl, ?_⟩) ?_ ?_
  rotate_left
  · intro w'
    go_simp
    with_reducible rfl
  rotate_left
  · simp only [Act.put, List.setIfInBounds_toArray, List.set_cons_zero, List.set_cons_succ, i64_w, i32_w]
    rfl
  refine done_ (by kernel_rfl) ?_
  try go_wp2
  go_ret
  exact ⟨rfl, HB3.out⟩


/-! ### impl_taking_best: function 115 -/
/-- an outcome: whether it wins, with which rung, how many are taken -/
def betterB (o b : Bool × Int × Int) : Bool := (o.1 && (!b.1 || decide (o.2.2 < b.2.2))) || (!o.1 && !b.1 && decide (o.2.2 > b.2.2))
def pickO (b : Option (Bool × Int × Int)) (o : Bool × Int × Int) : Bool × Int × Int := match b with | none => o | some q => if betterB o q = true then o else q
def bestGo (tk : Nat → Option (Bool × Int × Int)) (s : Nat) : Nat → Nat → Option (Bool × Int × Int) → Option (Option (Bool × Int × Int))
  | 0, _, b => some b
  | d + 1, i, b => if s / 2 ^ i % 2 = 0 then bestGo tk s d (i + 1) b else (tk i).bind fun o => bestGo tk s d (i + 1) (some (pickO b o))
def takeX (bst : Nat → Option (Bool × Int × Int)) (k : Nat) (a : Int) (l : List Int) (s i : Nat) : Option (Bool × Int × Int) :=
  (impl_isHomely.f k a (leftR l (s - 2 ^ i))).bind fun b => if b = true then some (true, (i : Int), 1) else (bst (s - 2 ^ i)).bind fun o => some (!o.1, (i : Int), wrap64 (o.2.2 + 1))
def bestF : Nat → Int → List Int → Nat → Option (Bool × Int × Int)
  | 0, _, _, _ => none
  | k + 1, a, l, s => (bestGo (takeX (bestF k a l) k a l s) s l.length 0 none).bind fun o => some (o.getD (false, 0, 0))
theorem bestGo_mono {tk tk' : Nat → Option (Bool × Int × Int)} (h : ∀ i, LeO (tk i) (tk' i)) (s : Nat) : ∀ d i b, LeO (bestGo tk s d i b) (bestGo tk' s d i b)
  | 0, _, _ => LeO.refl _
  | d + 1, i, b => LeO.ite (bestGo_mono h s d (i + 1) b) (LeO.bind (h i) fun _ => bestGo_mono h s d (i + 1) _)
theorem takeX_mono {bst bst' : Nat → Option (Bool × Int × Int)} (h : ∀ s, LeO (bst s) (bst' s)) (k : Nat) (a : Int) (l : List Int) (s i : Nat) : LeO (takeX bst k a l s i) (takeX bst' (k + 1) a l s i) :=
  LeO.bind (impl_isHomely.mono _ _ _) fun _ => LeO.ite (LeO.refl _) (LeO.bind (h _) fun _ => LeO.refl _)
theorem bestF_mono : ∀ (k : Nat) (a : Int) (l : List Int) (s : Nat), LeO (bestF k a l s) (bestF (k + 1) a l s)
  | 0, _, _, _ => LeO.none _
  | k + 1, a, l, s => LeO.bind (bestGo_mono (takeX_mono (bestF_mono k a l) k a l s) s _ _ _) fun _ => LeO.refl _
theorem bestF_le (a : Int) (l : List Int) (s : Nat) (k d : Nat) : LeO (bestF k a l s) (bestF (k + d) a l s) := by
  induction d with
  | zero => exact LeO.refl _
  | succ d ih => exact fun r h => bestF_mono _ _ _ _ r (ih r h)
theorem bestF_det {a : Int} {l : List Int} {s k k' : Nat} {o o' : Bool × Int × Int} (h : bestF k a l s = some o) (h' : bestF k' a l s = some o') : o = o' := by
  have h1 := bestF_le a l s k k' o h
  have h2 := bestF_le a l s k' k o' h'
  rw [Nat.add_comm] at h2
  rw [h1] at h2
  exact Option.some.inj h2
def outV (o : Bool × Int × Int) : Value := .agg #[.bool o.1, .int .i64 o.2.1, .int .i64 o.2.2]
def outD (o : Bool × Int × Int) : DataW Unit := .agg [.lit (.bool o.1), .lit (.int .i64 o.2.1), .lit (.int .i64 o.2.2)]
theorem outR_mk (o : Bool × Int × Int) : outR (outV o) = some (outD o, []) := rfl
theorem outR_inv {v : Value} {o : Bool × Int × Int} {ps : List MemPlace} (h : outR v = some (outD o, ps)) : v = outV o := by
  unfold outR at h
  split at h
  · rename_i cs
    split at h
    · rename_i b x m e
      simp only [outD, Option.some.injEq, Prod.mk.injEq, DataW.agg.injEq, List.cons.injEq, DataW.lit.injEq, Lit.bool.injEq, Lit.int.injEq, true_and, and_true] at h
      obtain ⟨⟨h1, h2, h3⟩, _⟩ := h
      rw [outV, ← h1, ← h2, ← h3, ← e]
    · cases h
  · cases h
/-- a key that is no set of N -/
def badKey (N : Int) (p : Lit × DataW Unit) : Bool := match p.1 with | .int .u64 x => !(decide (0 ≤ x) && decide (x < N)) | _ => true
theorem keys_le : ∀ (N : Nat) (es : List (Lit × DataW Unit)), es.Pairwise (fun p q => p.1 ≠ q.1) → es.any (badKey N) = false → es.length ≤ N := by
  intro N
  induction N with
  | zero =>
    intro es _ h
    cases es with
    | nil => exact Nat.le_refl _
    | cons p es =>
      exfalso
      rw [List.any_cons, Bool.or_eq_false_iff] at h
      have h1 := h.1
      unfold badKey at h1
      split at h1
      · simp at h1; omega
      · cases h1
  | succ N ih =>
    intro es hp h
    have h1 := Maps.length_strike (k := .int .u64 (N : Int)) es hp
    have h2 := ih (es.filter fun p => !p.1.sameKey (.int .u64 (N : Int))) (hp.filter _) (by
      rw [List.any_eq_false] at h ⊢
      intro p hp2
      rw [List.mem_filter] at hp2
      have h3 := h p hp2.1
      have h4 := hp2.2
      intro h5
      apply h3
      unfold badKey at h5 ⊢
      split at h5
      · rename_i x e
        rw [e] at h4
        simp [Lit.sameKey] at h4
        simp at h5 ⊢
        omega
      · rfl)
    split at h1 <;> omega
def KnownD (a : Int) (l : List Int) (D : DataW Unit) : Prop := (∃ es, D = .map es ∧ es.any (badKey 4096) = false) ∧ ∀ s : Nat, Maps.has D (.int .u64 (s : Int)) = true → ∃ o k, (∀ z, D.atKey (.int .u64 (s : Int)) z = outD o) ∧ bestF k a l s = some o
theorem KnownD.nil (a : Int) (l : List Int) : KnownD a l (.map []) := ⟨⟨[], rfl, rfl⟩, fun s h => by cases h⟩
theorem KnownD.put {a : Int} {l : List Int} {D : DataW Unit} (h : KnownD a l D) {s : Nat} (hs : s < 4096) {o : Bool × Int × Int} {k : Nat} (ho : bestF k a l s = some o) : KnownD a l (D.put (.int .u64 (s : Int)) (outD o)) := by
  obtain ⟨⟨es, rfl, hb⟩, hk⟩ := h
  refine ⟨⟨_, rfl, ?_⟩, fun s' h' => ?_⟩
  · rw [Maps.any_insert, Bool.or_eq_false_iff]
    refine ⟨?_, ?_⟩
    · simp [badKey]; omega
    · rw [List.any_eq_false] at hb ⊢
      intro p hp
      rw [List.mem_filter] at hp
      exact hb p hp.1
  · by_cases e : s' = s
    · subst e
      exact ⟨o, k, fun z => Maps.atKey_put_same ⟨es, rfl⟩ (show WideAt.IsKeyLit (.int .u64 (s' : Int)) from trivial) _ _, ho⟩
    · have hne : (Lit.int .u64 (s' : Int)) ≠ .int .u64 (s : Int) := fun e2 => e (by injection e2 with _ e2; omega)
      rw [Maps.has_put_other hne] at h'
      obtain ⟨o', k', h1, h2⟩ := hk s' h'
      exact ⟨o', k', fun z => by rw [Maps.atKey_put_other hne]; exact h1 z, h2⟩
theorem KnownD.size {a : Int} {l : List Int} {D : DataW Unit} (h : KnownD a l D) (ht : Maps.Tidy D) : Maps.size D ≤ 4096 := by
  obtain ⟨⟨es, rfl, hb⟩, _⟩ := h
  obtain ⟨es', e, hp⟩ := ht
  injection e with e
  subst e
  exact keys_le 4096 es hp hb
/-- a game in a later world: its blocks, and what is known -/
def Gm (w0 : World) (A0 : Option Addr) (c0 : Nat) (a : Int) (l : List Int) (g bm : Nat) (w : World) : Prop := Game A0 c0 a l g bm w ∧ (∃ D, w.ownsMap Try.prog 91 outR bm (Maps.size D) D ∧ KnownD a l D) ∧ Below w0.heap.size w0 w
def Setup (w0 : World) (A0 : Option Addr) (c0 : Nat) (a : Int) (l : List Int) (g bm : Nat) : Prop := Kd.C (Kd.int .i64) w0 A0 l.length l ∧ l.length ≤ c0 ∧ l.length ≤ 12 ∧ w0.heap.size ≤ g ∧ w0.heap.size ≤ bm ∧ g ≠ bm
section
variable {w0 w w1 : World} {A0 : Option Addr} {c0 : Nat} {a : Int} {l : List Int} {g bm : Nat}
theorem Gm.grown (h : Gm w0 A0 c0 a l g bm w) (hg : w.grownBy w1 none) : Gm w0 A0 c0 a l g bm w1 := by
  obtain ⟨h1, ⟨D, h2, h3⟩, h4⟩ := h
  exact ⟨blk_grown h1 hg (by simp), ⟨D, h2.kept hg (by simp), h3⟩, pw_below_grown h4 none h4.size hg (by simp)⟩
theorem Gm.below (h : Gm w0 A0 c0 a l g bm w) (hb : Below w.heap.size w w1) : Gm w0 A0 c0 a l g bm w1 := h.grown (grown_of_below hb none)
theorem Gm.drew (h : Gm w0 A0 c0 a l g bm w) : Gm w0 A0 c0 a l g bm w.drew := h.below (below_drew1 (Below.refl _ _))
theorem Gm.drewN (h : Gm w0 A0 c0 a l g bm w) (n : Nat) : Gm w0 A0 c0 a l g bm (w.drewN n) := h.below (pw_below_drewN (Below.refl _ _) n)
theorem Gm.alloc (h : Gm w0 A0 c0 a l g bm w) (o : Obj) : Gm w0 A0 c0 a l g bm (w.alloc o) := h.below (below_alloc (Below.refl _ _) o)
theorem Gm.far (h : Gm w0 A0 c0 a l g bm w) {p : Nat} (hg : w.grownBy w1 (some p)) (hp1 : g ≠ p) (hp2 : bm ≠ p) (hp3 : w0.heap.size ≤ p) : Gm w0 A0 c0 a l g bm w1 := by
  obtain ⟨h1, ⟨D, h2, h3⟩, h4⟩ := h
  exact ⟨blk_grown h1 hg (by simpa using hp1), ⟨D, h2.kept hg (by simpa using hp2), h3⟩, pw_below_grown h4 (some p) h4.size hg (by intro k e; injection e with e; omega)⟩
theorem Gm.g_lt (h : Gm w0 A0 c0 a l g bm w) : g < w.heap.size := blk_lt h.1
theorem Gm.bm_lt (h : Gm w0 A0 c0 a l g bm w) : bm < w.heap.size := by obtain ⟨_, ⟨D, h2, _⟩, _⟩ := h; exact h2.lt
theorem Setup.C (h : Setup w0 A0 c0 a l g bm) (hg : Gm w0 A0 c0 a l g bm w) : Kd.C (Kd.int .i64) w A0 l.length l := Kd.C_below h.1 hg.2.2
theorem Gm.game (h : Gm w0 A0 c0 a l g bm w) : Game A0 c0 a l g bm w := h.1
theorem Setup.cap (h : Setup w0 A0 c0 a l g bm) : l.length ≤ c0 := h.2.1
theorem Setup.len (h : Setup w0 A0 c0 a l g bm) : l.length ≤ 20 := Nat.le_trans h.2.2.1 (by decide)
theorem gb_far {p : Nat} {o : Obj} (h : w.heap[p]? = some o) (hg : w.grownBy w1 (some bm)) (hne : p ≠ bm) : w1.heap[p]? = some o := blk_grown h hg (by simpa using hne)
/-- what is kept but for the map -/
theorem gb_below {row : Option Nat} {w2 : World} (h : w.grownBy w1 row) (hb : Below w1.heap.size w1 w2) : w.grownBy w2 row := World.grownBy.trans h (grown_of_below hb row)
theorem gb_own {row : Option Nat} {w2 : World} {p : Nat} (h : w.grownBy w1 row) (hb : w1.grownBy w2 (some p)) (hp : w.heap.size ≤ p) : w.grownBy w2 row := World.grownBy.andThen h hb (fun j e => by injection e with e; left; omega)
end
theorem grownBy_set1 (W : World) (b j : Nat) (v : Value) : W.grownBy (W.setCell ⟨b, j, none⟩ v) (some b) := by
  exact ⟨rfl, rfl, rfl, ((Below.refl 0 W).setCell (Nat.zero_le b) v : Below 0 W (W.setCell ⟨b, j, none⟩ v)).size, fun i _ hne => Below.heap_setCell W ⟨b, j, none⟩ v i (fun e => hne (by rw [e]))⟩
section
variable {P : Program} {ops : Array Oper} {rest : List Oper} {o : Oper} {a : Act} {Q : Exit → Act → World → Prop}
/-- an outcome is stored in a block of its own -/
theorem out_store {W : World} (hgd : o.guard = none) (p : Tmp) (_hd : ∃ T v, o.op = .store T (.tmp p) v) {gp : Nat} {x : Bool} {y z : Int} {c0 c1 c2 : Value} {t : TypeId} (hb : W.heap[gp]? = some (.cells #[c0, c1, c2] t (0, 0)))
    (hrun : W.cell? ⟨gp, 0, none⟩ = some c0 → W.cell? ⟨gp, 1, none⟩ = some c1 → W.cell? ⟨gp, 2, none⟩ = some c2 → W.frozen? ⟨gp, 0, none⟩ = false → W.frozen? ⟨gp, 1, none⟩ = false → W.frozen? ⟨gp, 2, none⟩ = false →
      (execOp a.eval o).run P W = .ok .skip (((W.setCell ⟨gp, 0, none⟩ (.bool x)).setCell ⟨gp, 1, none⟩ (.int .i64 y)).setCell ⟨gp, 2, none⟩ (.int .i64 z)))
    (h : ∀ w1, w1.heap[gp]? = some (.cells #[.bool x, .int .i64 y, .int .i64 z] t (0, 0)) → W.grownBy w1 (some gp) → wpList P ops Q rest (a.put o.dst undef) w1) : wpList P ops Q (o :: rest) a W := by
  refine wpList_plain hgd fun K' hK' => ?_
  unfold Oper.wp
  rw [hrun ((blk_cell hb 0).trans rfl) ((blk_cell hb 1).trans rfl) ((blk_cell hb 2).trans rfl) (blk_frozen hb 0) (blk_frozen hb 1) (blk_frozen hb 2)]
  refine hK' _ _ (h _ (blk_put (blk_put (blk_put hb 0 (.bool x) rfl) 1 (.int .i64 y) rfl) 2 (.int .i64 z) rfl) ?_)
  exact World.grownBy.trans (World.grownBy.trans (grownBy_set1 _ gp 0 _) (grownBy_set1 _ gp 1 _)) (grownBy_set1 _ gp 2 _)
end
def BestAt (w0 : World) (A0 : Option Addr) (c0 : Nat) (a : Int) (l : List Int) (g bm : Nat) (k : Nat) : Prop := ∀ (s : Nat) (o : Bool × Int × Int) (w : World), s < 4096 → bestF k a l s = some o → Gm w0 A0 c0 a l g bm w →
    Calls Try.prog 115 #[.pointer (some ⟨g, 0, none⟩), .int .u64 (s : Int)] w fun e w' => e = .returned (outV o) ∧ Gm w0 A0 c0 a l g bm w' ∧ w.grownBy w' (some bm)
theorem BestAt.calls {w0 w : World} {A0 : Option Addr} {c0 : Nat} {a : Int} {l : List Int} {g bm k : Nat} (h : BestAt w0 A0 c0 a l g bm k) (s : Nat) (hs : s < 4096) (x : Bool) (y z : Int) (ho : bestF k a l s = some (x, y, z)) (hg : Gm w0 A0 c0 a l g bm w) :
    Calls Try.prog 115 #[.pointer (some ⟨g, 0, none⟩), .int .u64 (s : Int)] w fun e w' => e = .returned (.agg #[.bool x, .int .i64 y, .int .i64 z]) ∧ Gm w0 A0 c0 a l g bm w' ∧ w.grownBy w' (some bm) := h s (x, y, z) w hs ho hg
set_option maxHeartbeats 4000000 in
set_option maxRecDepth 100000 in
theorem take_calls {w0 : World} {A0 : Option Addr} {c0 : Nat} {a : Int} {l : List Int} {g bm : Nat} (hsu : Setup w0 A0 c0 a l g bm) (k : Nat) (hbest : BestAt w0 A0 c0 a l g bm k) (s t : Nat) (hs : s < 4096) (ht : t < 12) (hbit : ¬ s / 2 ^ t % 2 = 0) (k2 : Nat) (o : Bool × Int × Int) (ho : takeX (bestF k a l) k2 a l s t = some o) (w : World) (hg : Gm w0 A0 c0 a l g bm w) :
    Calls Try.prog 119 #[.pointer (some ⟨g, 0, none⟩), .int .u64 (s : Int), .int .i64 (t : Int)] w fun e w' => e = .returned (outV o) ∧ Gm w0 A0 c0 a l g bm w' ∧ w.grownBy w' (some bm) := by
  have hu60 := Try.underlying95
  have HG := Aside0.mk hg
  have HSU := Aside0.mk hsu
  have HBEST := Aside0.mk hbest
  have HGR := Aside0.mk (World.grownBy.refl w (some bm))
  have hbml := hg.bm_lt
  have hgl := hg.g_lt
  have hw0 := hg.2.2.size
  have ec := clrE_eq s t hs ht hbit
  rw [← show min t 64 = t from Nat.min_eq_left (by clear ec; omega)] at ec
  rw [show s - 2 ^ min t 64 = s - 2 ^ t by rw [Nat.min_eq_left (by clear ec; omega)]] at ec
  obtain ⟨s2, hs2⟩ : ∃ s2, s2 = s - 2 ^ t := ⟨_, rfl⟩
  have hs4 : s2 < 4096 := by rw [hs2]; exact Nat.lt_of_le_of_lt (Nat.sub_le _ _) hs
  unfold takeX at ho
  rw [← hs2] at ec ho
  replace ho := Option.bind_eq_some_iff.mp ho
  obtain ⟨b, hb, ho⟩ := ho
  have HH := Aside0.mk hb
  have HBM := Lib.hid hbml
  have HGL := Lib.hid hgl
  have HW0 := Lib.hid hw0
  have HS4 := Lib.hid hs4
  clear hs ht hbit hg hsu hbest hb hs2 hbml hgl hw0 hs4
  cases b with
  | true =>
    rw [if_pos rfl] at ho
    injection ho with ho
    subst ho
    go_enter Try.func119, Try.ntmps119
    go_wp2_with (first | ((with_reducible refine gate_dst (N := 6) rfl ?_); refine box_event ?hg (N := 6) ?hd (cs := #[.bool false, .int .i64 0, .int .i64 0]) (t := 95) ?hr ?_; (case hd => rfl); (case hg => rfl); (case hr => first | (go_simp; done) | (go_simp; rfl)); intro g6 hg w1 hbox hb; have G6 := Aside0.mk ((by rw [hg]; exact HGR.out.size) : w.heap.size ≤ g6); have N6 := Aside0.mk ((by first | exact trivial | (rw [hg]; exact trivial)) : True); have n0_ := Aside0.mk (HG.out.below hb); have n1_ := Aside0.mk (gb_below HGR.out hb); clear HG HGR ; have HG := n0_; have HGR := n1_; clear n0_ n1_ ; have BK6 := Aside0.mk hbox; clear hbox hb hg) | ((with_reducible refine (isOver_calls k2 a A0 c0 l HSU.out.len s2 (by have := HS4.out; omega) true g bm _ HG.out.game (HSU.out.C HG.out) HSU.out.cap HH.out).mono ?_); rintro e w2 ⟨rfl, hb⟩; have n0_ := Aside0.mk (HG.out.below hb); have n1_ := Aside0.mk (gb_below HGR.out hb); have n2_ := Aside0.mk (blk_below BK6.out hb); clear HG HGR BK6 hb; have HG := n0_; have HGR := n1_; have BK6 := n2_; clear n0_ n1_ n2_) | ((with_reducible refine out_store (gp := g6) (x := true) (y := (t : Int)) (z := 1) ?hgd 6 ?hd (c0 := .bool false) (c1 := .int .i64 0) (c2 := .int .i64 0) (t := 95) ?hb (fun hc0 hc1 hc2 hf0 hf1 hf2 => ?hr) ?_); (case hd => exact ⟨_, _, rfl⟩); (case hgd => rfl); (case hb => exact (by (with_reducible repeat (first | refine blk_drewN ?_ _ | refine blk_drew ?_ | refine blk_alloc ?_ _)); exact BK6.out)); (case hr => first | (go_simp; done) | (go_simp; rfl)); intro w5 hbox hgr; have n0_ := Aside0.mk (HG.out.far hgr (Nat.ne_of_lt (Nat.lt_of_lt_of_le HGL.out G6.out)) (Nat.ne_of_lt (Nat.lt_of_lt_of_le HBM.out G6.out)) (Nat.le_trans HW0.out G6.out)); have n1_ := Aside0.mk (gb_own HGR.out hgr G6.out); clear HG HGR BK6 ; have HG := n0_; have HGR := n1_; have BK6 := Aside0.mk hbox; clear n0_ n1_ hbox hgr ))
    refine bodyPost_ret (results_single rfl (.cell g6 95 #[.bool true, .int .i64 (t : Int), .int .i64 1] (0, 0) _ rfl (by (with_reducible repeat (first | refine blk_drewN ?_ _ | refine blk_drew ?_ | refine blk_alloc ?_ _)); exact BK6.out) Try.underlying95 rfl (by kernel_rfl) .nil)) rfl ?_
    exact ⟨rfl, HG.out, HGR.out⟩
  | false =>
    rw [if_neg (by simp)] at ho
    replace ho := Option.bind_eq_some_iff.mp ho
    obtain ⟨⟨x1, y1, z1⟩, hb, ho⟩ := ho
    injection ho with ho
    subst ho
    have HO := Aside0.mk hb
    clear hb
    go_enter Try.func119, Try.ntmps119
    go_wp2_with (first | ((with_reducible refine gate_dst (N := 6) rfl ?_); refine box_event ?hg (N := 6) ?hd (cs := #[.bool false, .int .i64 0, .int .i64 0]) (t := 95) ?hr ?_; (case hd => rfl); (case hg => rfl); (case hr => first | (go_simp; done) | (go_simp; rfl)); intro g6 hg w1 hbox hb; have G6 := Aside0.mk ((by rw [hg]; exact HGR.out.size) : w.heap.size ≤ g6); have N6 := Aside0.mk ((by first | exact trivial | (rw [hg]; exact trivial)) : True); have n0_ := Aside0.mk (HG.out.below hb); have n1_ := Aside0.mk (gb_below HGR.out hb); clear HG HGR ; have HG := n0_; have HGR := n1_; clear n0_ n1_ ; have BK6 := Aside0.mk hbox; clear hbox hb hg) | ((with_reducible refine gate_dst (N := 8) rfl ?_); refine box_event ?hg (N := 8) ?hd (cs := #[.bool false, .int .i64 0, .int .i64 0]) (t := 95) ?hr ?_; (case hd => rfl); (case hg => rfl); (case hr => first | (go_simp; done) | (go_simp; rfl)); intro g8 hg w1 hbox hb; have G8 := Aside0.mk ((by rw [hg]; exact HGR.out.size) : w.heap.size ≤ g8); have N8 := Aside0.mk ((by first | exact trivial | (rw [hg]; exact Nat.ne_of_lt (blk_lt BK6.out))) : g6 ≠ g8); have n0_ := Aside0.mk (HG.out.below hb); have n1_ := Aside0.mk (gb_below HGR.out hb); have mBK6_ := Aside0.mk (blk_below BK6.out hb); clear HG HGR BK6; have HG := n0_; have HGR := n1_; have BK6 := mBK6_; clear n0_ n1_ mBK6_; have BK8 := Aside0.mk hbox; clear hbox hb hg) | ((with_reducible refine (isOver_calls k2 a A0 c0 l HSU.out.len s2 (by have := HS4.out; omega) false g bm _ HG.out.game (HSU.out.C HG.out) HSU.out.cap HH.out).mono ?_); rintro e w2 ⟨rfl, hb⟩; have n0_ := Aside0.mk (HG.out.below hb); have n1_ := Aside0.mk (gb_below HGR.out hb); have n2_ := Aside0.mk (blk_below BK6.out hb); clear HG HGR BK6 hb; have HG := n0_; have HGR := n1_; have BK6 := n2_; clear n0_ n1_ n2_) | ((with_reducible refine (HBEST.out.calls s2 HS4.out x1 y1 z1 HO.out HG.out).mono ?_); rintro e w3 ⟨rfl, hg, hgr⟩; have n0_ := Aside0.mk hg; have n1_ := Aside0.mk (World.grownBy.trans HGR.out hgr); have n2_ := Aside0.mk (gb_far BK6.out hgr (Nat.ne_of_gt (Nat.lt_of_lt_of_le HBM.out G6.out))); clear HG HGR BK6 hg hgr; have HG := n0_; have HGR := n1_; have BK6 := n2_; clear n0_ n1_ n2_) | ((with_reducible refine out_store (gp := g8) (x := x1) (y := y1) (z := z1) ?hgd 8 ?hd (c0 := .bool false) (c1 := .int .i64 0) (c2 := .int .i64 0) (t := 95) ?hb (fun hc0 hc1 hc2 hf0 hf1 hf2 => ?hr) ?_); (case hd => exact ⟨_, _, rfl⟩); (case hgd => rfl); (case hb => exact (by (with_reducible repeat (first | refine blk_drewN ?_ _ | refine blk_drew ?_ | refine blk_alloc ?_ _)); exact BK8.out)); (case hr => first | (go_simp; done) | (go_simp; rfl)); intro w5 hbox hgr; have n0_ := Aside0.mk (HG.out.far hgr (Nat.ne_of_lt (Nat.lt_of_lt_of_le HGL.out G8.out)) (Nat.ne_of_lt (Nat.lt_of_lt_of_le HBM.out G8.out)) (Nat.le_trans HW0.out G8.out)); have n1_ := Aside0.mk (gb_own HGR.out hgr G8.out); have mBK6_ := Aside0.mk (blk_grown BK6.out hgr (by simpa using N8.out)); clear HG HGR BK8 BK6; have HG := n0_; have HGR := n1_; have BK8 := Aside0.mk hbox; have BK6 := mBK6_; clear n0_ n1_ hbox hgr mBK6_; have hx0 : w5.cell? ⟨g8, 0, none⟩ = some (.bool x1) := (blk_cell BK8.out 0).trans rfl; have hx2 : w5.cell? ⟨g8, 2, none⟩ = some (.int .i64 z1) := (blk_cell BK8.out 2).trans rfl) | ((with_reducible refine out_store (gp := g6) (x := (!x1)) (y := (t : Int)) (z := (wrap64 (z1 + 1))) ?hgd 6 ?hd (c0 := .bool false) (c1 := .int .i64 0) (c2 := .int .i64 0) (t := 95) ?hb (fun hc0 hc1 hc2 hf0 hf1 hf2 => ?hr) ?_); (case hd => exact ⟨_, _, rfl⟩); (case hgd => rfl); (case hb => exact (by (with_reducible repeat (first | refine blk_drewN ?_ _ | refine blk_drew ?_ | refine blk_alloc ?_ _)); exact BK6.out)); (case hr => first | (go_simp; done) | (go_simp; rfl)); intro w5 hbox hgr; have n0_ := Aside0.mk (HG.out.far hgr (Nat.ne_of_lt (Nat.lt_of_lt_of_le HGL.out G6.out)) (Nat.ne_of_lt (Nat.lt_of_lt_of_le HBM.out G6.out)) (Nat.le_trans HW0.out G6.out)); have n1_ := Aside0.mk (gb_own HGR.out hgr G6.out); clear HG HGR BK6 ; have HG := n0_; have HGR := n1_; have BK6 := Aside0.mk hbox; clear n0_ n1_ hbox hgr ))
    refine bodyPost_ret (results_single rfl (.cell g6 95 #[.bool (!x1), .int .i64 (t : Int), .int .i64 (wrap64 (z1 + 1))] (0, 0) _ rfl (by (with_reducible repeat (first | refine blk_drewN ?_ _ | refine blk_drew ?_ | refine blk_alloc ?_ _)); exact BK6.out) Try.underlying95 rfl (by kernel_rfl) .nil)) rfl ?_
    exact ⟨rfl, HG.out, HGR.out⟩
theorem skip_stepB {P : Program} {ops : Array Oper} {o : Oper} {a : Act} {Q : Exit → Act → World → Prop} {Kc : Act → World → Prop} {W w1 : World} (hw : Region.wanted o (yielded ops a.tmps) = true) (hN : o.dst = none) (hrun : (execOp a.eval o).run P W = .ok .skip w1) (h : Kc a w1) : if Region.wanted o (yielded ops a.tmps) = true then Oper.wp P o a W Kc Q else Kc (a.put o.dst undef) W := by
  rw [if_pos hw]
  unfold Oper.wp
  rw [hrun]
  show Kc (a.put o.dst undef) w1
  rw [hN]
  exact h
theorem upd_step {P : Program} {ops : Array Oper} {o : Oper} {a : Act} {Q : Exit → Act → World → Prop} {Kc : Act → World → Prop} {W w1 : World} (hw : Region.wanted o (yielded ops a.tmps) = true) (hN : o.dst = none) {T : TypeId} {m x v : Operand} {mv key val : Value} (hop : o.op = .mapUpdate T m x v) (hm : a.eval m = mv) (hx : a.eval x = key) (hv : a.eval v = val) (hrun : (Instr.mapUpdate T mv key val).run P W = .ok () w1) (h : Kc a w1) : if Region.wanted o (yielded ops a.tmps) = true then Oper.wp P o a W Kc Q else Kc (a.put o.dst undef) W :=
  skip_stepB hw hN (by simp [execOp, hop, hm, hx, hv, hrun, Result.andThen]) h
theorem uint_keyed : Maps.Keyed Try.prog 91 := Maps.int_keyed Try.underlying91
theorem key_of (s : Nat) (h : s < 4096) : keyOf Try.prog 91 (.int .u64 (s : Int)) = some (.int .u64 (s : Int)) := by
  unfold keyOf
  rw [Try.underlying91]
  have h1 : ((s : Int)) < 18446744073709551616 := by omega
  have h0 : (0 : Int) ≤ (s : Int) := by omega
  simp [mapKey, Try.underlying91, Lit.wf, IntKind.min, IntKind.max, IntKind.wrap, IntKind.bits, IntKind.signed]
  omega
theorem zero_out (w : World) : (zeroValue 95).run Try.prog w = .ok (outV (false, 0, 0)) w := by
  kernel_rfl
section
variable {ops : Array Oper} {rest : List Oper} {o : Oper} {a : Act} {Q : Exit → Act → World → Prop}
/-- what is known of a set -/
theorem look_step {W : World} (hgd : o.guard = none) {m x : Operand} (hop : o.op = .lookup 113 m x true) {bm : Nat} {D : DataW Unit} {s : Nat} {b : Bool} {x1 : Bool} {y1 z1 : Int} (hm : a.eval m = .map (some bm)) (hx : a.eval x = .int .u64 (s : Int)) (hs : s < 4096)
    (hown : W.ownsMap Try.prog 91 outR bm (Maps.size D) D) (hb : Maps.has D (.int .u64 (s : Int)) = b) (hat : D.atKey (.int .u64 (s : Int)) (outD (false, 0, 0)) = outD (x1, y1, z1))
    (h : wpList Try.prog ops Q rest (a.put o.dst (.tuple #[.agg #[.bool x1, .int .i64 y1, .int .i64 z1], .bool b])) W) : wpList Try.prog ops Q (o :: rest) a W := by
  refine wpList_lookup_own_ok W hgd m x 113 hop 91 95 uint_keyed Try.underlying113 outR (zero_out W) (outD (false, 0, 0)) [] (outR_mk _) bm _ D hm hown _ (.int .u64 (s : Int)) hx (key_of s hs) (fun v ps hv => ?_)
  rw [hat] at hv
  rw [outR_inv hv, hb]
  exact h
end
theorem owns_tight {w : World} {bm n : Nat} {D : DataW Unit} (h : w.ownsMap Try.prog 91 outR bm n D) : w.ownsMap Try.prog 91 outR bm (Maps.size D) D := by
  obtain ⟨es, clock, hb, F, _, rfl⟩ := h
  exact ⟨es, clock, hb, F, by simp [Maps.size, Go.length_sorted], rfl⟩
theorem Gm.put {w0 w : World} {A0 : Option Addr} {c0 : Nat} {a : Int} {l : List Int} {g bm : Nat} (h : Gm w0 A0 c0 a l g bm w) (hsu : Setup w0 A0 c0 a l g bm) {s : Nat} (hs : s < 4096) {o : Bool × Int × Int} {k : Nat} (ho : bestF k a l s = some o) :
    ∃ w', (Instr.mapUpdate 113 (.map (some bm)) (.int .u64 (s : Int)) (outV o)).run Try.prog w = .ok () w' ∧ Gm w0 A0 c0 a l g bm w' ∧ w.grownBy w' (some bm) := by
  obtain ⟨h1, ⟨D, h2, h3⟩, h4⟩ := h
  have hsz := h3.size (h2.tidy uint_keyed)
  obtain ⟨w', hr, ho', ht⟩ := h2.store uint_keyed Try.underlying113 (Nat.lt_of_le_of_lt hsz (by decide)) (key_of s hs) (outR_mk o)
  exact ⟨w', hr, ⟨blk_grown h1 ht.grown (by simpa using hsu.2.2.2.2.2), ⟨_, owns_tight ho', h3.put hs ho⟩, pw_below_grown h4 (some bm) h4.size ht.grown (by intro k e; injection e with e; rw [← e]; exact hsu.2.2.2.2.1)⟩, ht.grown⟩
set_option maxHeartbeats 4000000 in
set_option maxRecDepth 100000 in
theorem best_known {w0 : World} {A0 : Option Addr} {c0 : Nat} {a : Int} {l : List Int} {g bm : Nat} (s : Nat) (hs : s < 4096) (x1 : Bool) (y1 z1 : Int) (w : World) (hg : Gm w0 A0 c0 a l g bm w) (D : DataW Unit) (hown : w.ownsMap Try.prog 91 outR bm (Maps.size D) D) (hhas : Maps.has D (.int .u64 (s : Int)) = true) (hat : D.atKey (.int .u64 (s : Int)) (outD (false, 0, 0)) = outD (x1, y1, z1)) :
    Calls Try.prog 115 #[.pointer (some ⟨g, 0, none⟩), .int .u64 (s : Int)] w fun e w' => e = .returned (outV (x1, y1, z1)) ∧ Gm w0 A0 c0 a l g bm w' ∧ w.grownBy w' (some bm) := by
  have hu60 := Try.underlying95
  have hu69 := Try.underlying115
  have HG := Aside0.mk hg
  have HGR := Aside0.mk (World.grownBy.refl w (some bm))
  have HBM := Lib.hid hg.bm_lt
  have HGL := Lib.hid hg.g_lt
  have HW0 := Lib.hid hg.2.2.size
  have HS4 := Lib.hid hs
  have HOWN := Aside0.mk hown
  have HHAS := Aside0.mk hhas
  have HAT := Aside0.mk hat
  clear hs hg hown hhas hat
  go_enter Try.func115, Try.ntmps115
  go_wp2_with (first | ((with_reducible refine gate_dst (N := 4) rfl ?_); refine box_event ?hg (N := 4) ?hd (cs := #[.bool false, .int .i64 0, .int .i64 0]) (t := 95) ?hr ?_; (case hd => rfl); (case hg => rfl); (case hr => first | (go_simp; done) | (go_simp; rfl)); intro g4 hg w1 hbox hb; have G4 := Aside0.mk ((by rw [hg]; exact HGR.out.size) : w.heap.size ≤ g4); have N4 := Aside0.mk ((by first | exact trivial | (rw [hg]; exact trivial)) : True); have n0_ := Aside0.mk (HG.out.below hb); have n1_ := Aside0.mk (gb_below HGR.out hb); clear HG HGR ; have HG := n0_; have HGR := n1_; clear n0_ n1_ ; have BK4 := Aside0.mk hbox; have HB4 := Aside0.mk hb; clear hbox hb hg; have n3_ := Aside0.mk (World.ownsMap.kept (row := none) HOWN.out (grown_of_below HB4.out none) (by simp)); clear HOWN HB4; have HOWN := n3_; clear n3_; have hk : w1.cell? ⟨g, 2, none⟩ = some (.map (some bm)) := (blk_cell HG.out.game 2).trans rfl) | (at_lookup; refine look_step (D := D) (s := s) (x1 := x1) (y1 := y1) (z1 := z1) rfl rfl rfl rfl HS4.out (World.ownsMap.kept (row := none) HOWN.out (grown_of_below (by (with_reducible repeat (first | apply below_alloc | apply pw_below_drewN | apply below_drew1)); exact Below.refl _ _) none) (by simp)) HHAS.out HAT.out ?_) | ((with_reducible refine gate_dst (N := 5) rfl ?_); refine box_event ?hg (N := 5) ?hd (cs := #[.bool false, .int .i64 0, .int .i64 0]) (t := 95) ?hr ?_; (case hd => rfl); (case hg => rfl); (case hr => first | (go_simp; done) | (go_simp; rfl)); intro g5 hg w1 hbox hb; have G5 := Aside0.mk ((by rw [hg]; exact HGR.out.size) : w.heap.size ≤ g5); have N5 := Aside0.mk ((by first | exact trivial | (rw [hg]; exact Nat.ne_of_lt (blk_lt BK4.out))) : g4 ≠ g5); have n0_ := Aside0.mk (HG.out.below hb); have n1_ := Aside0.mk (gb_below HGR.out hb); have mBK4_ := Aside0.mk (blk_below BK4.out hb); clear HG HGR BK4; have HG := n0_; have HGR := n1_; have BK4 := mBK4_; clear n0_ n1_ mBK4_; have BK5 := Aside0.mk hbox; clear hbox hb hg) | ((with_reducible refine out_store (gp := g5) (x := x1) (y := y1) (z := z1) ?hgd 5 ?hd (c0 := .bool false) (c1 := .int .i64 0) (c2 := .int .i64 0) (t := 95) ?hb (fun hc0 hc1 hc2 hf0 hf1 hf2 => ?hr) ?_); (case hd => exact ⟨_, _, rfl⟩); (case hgd => rfl); (case hb => exact (by (with_reducible repeat (first | refine blk_drewN ?_ _ | refine blk_drew ?_ | refine blk_alloc ?_ _)); exact BK5.out)); (case hr => first | (go_simp; done) | (go_simp; rfl)); intro w5 hbox hgr; have n0_ := Aside0.mk (HG.out.far hgr (Nat.ne_of_lt (Nat.lt_of_lt_of_le HGL.out G5.out)) (Nat.ne_of_lt (Nat.lt_of_lt_of_le HBM.out G5.out)) (Nat.le_trans HW0.out G5.out)); have n1_ := Aside0.mk (gb_own HGR.out hgr G5.out); have mBK4_ := Aside0.mk (blk_grown BK4.out hgr (by simpa using N5.out)); clear HG HGR BK5 BK4; have HG := n0_; have HGR := n1_; have BK5 := Aside0.mk hbox; have BK4 := mBK4_; clear n0_ n1_ hbox hgr mBK4_; have hx5_0 : w5.cell? ⟨g5, 0, none⟩ = some (.bool x1) := (blk_cell BK5.out 0).trans rfl; have hx5_1 : w5.cell? ⟨g5, 1, none⟩ = some (.int .i64 y1) := (blk_cell BK5.out 1).trans rfl; have hx5_2 : w5.cell? ⟨g5, 2, none⟩ = some (.int .i64 z1) := (blk_cell BK5.out 2).trans rfl) | ((with_reducible refine out_store (gp := g4) (x := x1) (y := y1) (z := z1) ?hgd 4 ?hd (c0 := .bool false) (c1 := .int .i64 0) (c2 := .int .i64 0) (t := 95) ?hb (fun hc0 hc1 hc2 hf0 hf1 hf2 => ?hr) ?_); (case hd => exact ⟨_, _, rfl⟩); (case hgd => rfl); (case hb => exact (by (with_reducible repeat (first | refine blk_drewN ?_ _ | refine blk_drew ?_ | refine blk_alloc ?_ _)); exact BK4.out)); (case hr => first | (go_simp; done) | (go_simp; rfl)); intro w5 hbox hgr; have n0_ := Aside0.mk (HG.out.far hgr (Nat.ne_of_lt (Nat.lt_of_lt_of_le HGL.out G4.out)) (Nat.ne_of_lt (Nat.lt_of_lt_of_le HBM.out G4.out)) (Nat.le_trans HW0.out G4.out)); have n1_ := Aside0.mk (gb_own HGR.out hgr G4.out); clear HG HGR BK4 ; have HG := n0_; have HGR := n1_; have BK4 := Aside0.mk hbox; clear n0_ n1_ hbox hgr ))
  refine bodyPost_ret (results_single rfl (.cell g4 95 #[.bool x1, .int .i64 y1, .int .i64 z1] (0, 0) _ rfl (by (with_reducible repeat (first | refine blk_drewN ?_ _ | refine blk_drew ?_ | refine blk_alloc ?_ _)); exact BK4.out) Try.underlying95 rfl (by kernel_rfl) .nil)) rfl ?_
  exact ⟨rfl, HG.out, HGR.out⟩
theorem Gm.row {w0 w w1 : World} {A0 : Option Addr} {c0 : Nat} {a : Int} {l : List Int} {g bm : Nat} {row : Option Nat} (h : Gm w0 A0 c0 a l g bm w) (hg : w.grownBy w1 row) (hr : ∀ k, row = some k → (k ≠ g ∧ k ≠ bm) ∧ w0.heap.size ≤ k) : Gm w0 A0 c0 a l g bm w1 := by
  cases row with
  | none => exact h.grown hg
  | some p =>
    obtain ⟨⟨h1, h2⟩, h3⟩ := hr p rfl
    exact h.far hg (fun e => h1 e.symm) (fun e => h2 e.symm) h3
set_option maxHeartbeats 4000000 in
set_option maxRecDepth 100000 in
theorem best_step {w0 : World} {A0 : Option Addr} {c0 : Nat} {a : Int} {l : List Int} {g bm : Nat} (hsu : Setup w0 A0 c0 a l g bm) (k : Nat) (hbest : BestAt w0 A0 c0 a l g bm k) : BestAt w0 A0 c0 a l g bm (k + 1) := by
  intro s o w hs ho hg
  have hg0 := hg
  obtain ⟨_, ⟨D, hown, hkn⟩, _⟩ := hg0
  cases hhas : Maps.has D (.int .u64 (s : Int)) with
  | true =>
    obtain ⟨o', k', hat, ho'⟩ := hkn.2 s hhas
    obtain rfl := bestF_det ho' ho
    exact best_known s hs _ _ _ w hg D hown hhas (hat _)
  | false =>
    have hat := Maps.atKey_of_not_has hhas (outD (false, 0, 0))
    have hu60 := Try.underlying95
    have hu69 := Try.underlying115
    have hu28 := Try.underlying26
    have HG := Aside0.mk hg
    have HSU := Aside0.mk hsu
    have HBEST := Aside0.mk hbest
    have HGR := Aside0.mk (World.grownBy.refl w (some bm))
    have HBM := Lib.hid hg.bm_lt
    have HGL := Lib.hid hg.g_lt
    have HW0 := Lib.hid hg.2.2.size
    have HS4 := Lib.hid hs
    have HOWN := Aside0.mk hown
    have HHAS := Aside0.mk hhas
    have HAT := Aside0.mk hat
    have HO := Aside0.mk ho
    unfold bestF at ho
    replace ho := Option.bind_eq_some_iff.mp ho
    obtain ⟨r, hr, ho⟩ := ho
    injection ho with ho
    have HP := Aside0.mk hr
    have HRO := Aside0.mk ho
    clear hs hg hown hhas hat hkn hsu hbest ho hr
    go_enter Try.func115, Try.ntmps115
    go_wp2_with (first | ((with_reducible refine gate_dst (N := 4) rfl ?_); refine box_event ?hg (N := 4) ?hd (cs := #[.bool false, .int .i64 0, .int .i64 0]) (t := 95) ?hr ?_; (case hd => rfl); (case hg => rfl); (case hr => first | (go_simp; done) | (go_simp; rfl)); intro g4 hg w1 hbox hb; have G4 := Aside0.mk ((by rw [hg]; exact HGR.out.size) : w.heap.size ≤ g4); have N4 := Aside0.mk ((by first | exact trivial | (rw [hg]; exact trivial)) : True); have n0_ := Aside0.mk (HG.out.below hb); have n1_ := Aside0.mk (gb_below HGR.out hb); clear HG HGR ; have HG := n0_; have HGR := n1_; clear n0_ n1_ ; have BK4 := Aside0.mk hbox; have HB4 := Aside0.mk hb; clear hbox hb hg; have n3_ := Aside0.mk (World.ownsMap.kept (row := none) HOWN.out (grown_of_below HB4.out none) (by simp)); clear HOWN HB4; have HOWN := n3_; clear n3_; have hk : w1.cell? ⟨g, 2, none⟩ = some (.map (some bm)) := (blk_cell HG.out.game 2).trans rfl) | (at_lookup; refine look_step (D := D) (s := s) (x1 := false) (y1 := 0) (z1 := 0) rfl rfl rfl rfl HS4.out (World.ownsMap.kept (row := none) HOWN.out (grown_of_below (by (with_reducible repeat (first | apply below_alloc | apply pw_below_drewN | apply below_drew1)); exact Below.refl _ _) none) (by simp)) HHAS.out HAT.out ?_) | ((with_reducible refine gate_dst (N := 5) rfl ?_); refine box_event ?hg (N := 5) ?hd (cs := #[.bool false, .int .i64 0, .int .i64 0]) (t := 95) ?hr ?_; (case hd => rfl); (case hg => rfl); (case hr => first | (go_simp; done) | (go_simp; rfl)); intro g5 hg w1 hbox hb; have G5 := Aside0.mk ((by rw [hg]; exact HGR.out.size) : w.heap.size ≤ g5); have N5 := Aside0.mk ((by first | exact trivial | (rw [hg]; exact Nat.ne_of_lt (blk_lt BK4.out))) : g4 ≠ g5); have n0_ := Aside0.mk (HG.out.below hb); have n1_ := Aside0.mk (gb_below HGR.out hb); have mBK4_ := Aside0.mk (blk_below BK4.out hb); clear HG HGR BK4; have HG := n0_; have HGR := n1_; have BK4 := mBK4_; clear n0_ n1_ mBK4_; have BK5 := Aside0.mk hbox; clear hbox hb hg) | ((with_reducible refine out_store (gp := g5) (x := false) (y := 0) (z := 0) ?hgd 5 ?hd (c0 := .bool false) (c1 := .int .i64 0) (c2 := .int .i64 0) (t := 95) ?hb (fun hc0 hc1 hc2 hf0 hf1 hf2 => ?hr) ?_); (case hd => exact ⟨_, _, rfl⟩); (case hgd => rfl); (case hb => exact (by (with_reducible repeat (first | refine blk_drewN ?_ _ | refine blk_drew ?_ | refine blk_alloc ?_ _)); exact BK5.out)); (case hr => first | (go_simp; done) | (go_simp; rfl)); intro w5 hbox hgr; have n0_ := Aside0.mk (HG.out.far hgr (Nat.ne_of_lt (Nat.lt_of_lt_of_le HGL.out G5.out)) (Nat.ne_of_lt (Nat.lt_of_lt_of_le HBM.out G5.out)) (Nat.le_trans HW0.out G5.out)); have n1_ := Aside0.mk (gb_own HGR.out hgr G5.out); have mBK4_ := Aside0.mk (blk_grown BK4.out hgr (by simpa using N5.out)); clear HG HGR BK5 BK4; have HG := n0_; have HGR := n1_; have BK5 := Aside0.mk hbox; have BK4 := mBK4_; clear n0_ n1_ hbox hgr mBK4_) | ((with_reducible refine gate_dst (N := 7) rfl ?_); refine box_event ?hg (N := 7) ?hd (cs := #[.bool false, .int .i64 0, .int .i64 0]) (t := 95) ?hr ?_; (case hd => rfl); (case hg => rfl); (case hr => first | (go_simp; done) | (go_simp; rfl)); intro g7 hg w1 hbox hb; have G7 := Aside0.mk ((by rw [hg]; exact HGR.out.size) : w.heap.size ≤ g7); have N7 := Aside0.mk ((by first | exact trivial | (rw [hg]; exact Nat.ne_of_lt (blk_lt BK4.out))) : g4 ≠ g7); have n0_ := Aside0.mk (HG.out.below hb); have n1_ := Aside0.mk (gb_below HGR.out hb); have mBK4_ := Aside0.mk (blk_below BK4.out hb); clear HG HGR BK4; have HG := n0_; have HGR := n1_; have BK4 := mBK4_; clear n0_ n1_ mBK4_; have BK7 := Aside0.mk hbox; clear hbox hb hg) | ((with_reducible refine out_store (gp := g7) (x := false) (y := 0) (z := 0) ?hgd 7 ?hd (c0 := .bool false) (c1 := .int .i64 0) (c2 := .int .i64 0) (t := 95) ?hb (fun hc0 hc1 hc2 hf0 hf1 hf2 => ?hr) ?_); (case hd => exact ⟨_, _, rfl⟩); (case hgd => rfl); (case hb => exact (by (with_reducible repeat (first | refine blk_drewN ?_ _ | refine blk_drew ?_ | refine blk_alloc ?_ _)); exact BK7.out)); (case hr => first | (go_simp; done) | (go_simp; rfl)); intro w5 hbox hgr; have n0_ := Aside0.mk (HG.out.far hgr (Nat.ne_of_lt (Nat.lt_of_lt_of_le HGL.out G7.out)) (Nat.ne_of_lt (Nat.lt_of_lt_of_le HBM.out G7.out)) (Nat.le_trans HW0.out G7.out)); have n1_ := Aside0.mk (gb_own HGR.out hgr G7.out); have mBK4_ := Aside0.mk (blk_grown BK4.out hgr (by simpa using N7.out)); clear HG HGR BK7 BK4; have HG := n0_; have HGR := n1_; have BK7 := Aside0.mk hbox; have BK4 := mBK4_; clear n0_ n1_ hbox hgr mBK4_; have hgz : w5.cell? ⟨g, 1, none⟩ = some (.slice A0 l.length c0) := (blk_cell HG.out.game 1).trans rfl))
    go_loopg [8, 30] l.length (fun gg v8 v30 wi => ∃ (i : Nat) (b : Option (Bool × Int × Int)), i ≤ l.length ∧ l.length - i ≤ gg ∧ v30 = .int .i64 (i : Int) ∧ v8 = .bool b.isNone ∧ Aside0 (bestGo (takeX (bestF k a l) k a l s) s (l.length - i) i b = some r) ∧ Aside0 (Gm w0 A0 c0 a l g bm wi) ∧ Aside0 (w.grownBy wi (some bm)) ∧ Aside0 (wi.heap[g4]? = some (.cells #[.bool false, .int .i64 0, .int .i64 0] 95 (0, 0))) ∧ Aside0 (wi.heap[g7]? = some (.cells #[.bool (b.getD (false, 0, 0)).1, .int .i64 (b.getD (false, 0, 0)).2.1, .int .i64 (b.getD (false, 0, 0)).2.2] 95 (0, 0))))
    case atStart => exact ⟨0, none, Nat.zero_le _, by omega, rfl, rfl, HP, HG, HGR, BK4, BK7⟩
    case round =>
      clear HG HGR BK4 BK7
      obtain ⟨i, b, hi, hgg, rfl, rfl, HP, HG, HGR, BK4, BK7⟩ := hrel
      have hi12 : i < l.length → i < 12 := fun h => Nat.lt_of_lt_of_le h HSU.out.2.2.1
      by_cases hlt : i < l.length
      · have d1 : decide ((i : Int) < (l.length : Int)) = true := decide_eq_true (by omega)
        have hp := HP.out
        rw [show l.length - i = (l.length - (i + 1)) + 1 by omega, bestGo] at hp
        have hsm : s < 4611686018427387904 := by have h1 := HS4.out; omega
        have h12 := hi12 hlt
        have e23 : ((s : Int) / 2 ^ min i 64) = (s : Int) / 2 ^ i := by rw [Nat.min_eq_left (by omega)]
        obtain ⟨x, hx⟩ : ∃ x : Int, x = ((s / 2 ^ i % 2 : Nat) : Int) := ⟨_, rfl⟩
        have e24 : Go.bits .and .u64 ((s : Int) / 2 ^ i) 1 = x := by
          have h1 := and_oneU (s / 2 ^ i) (Nat.lt_of_le_of_lt (Nat.div_le_self _ _) hsm)
          have h2 := shr_nat s i (by omega)
          rw [e23] at h2
          rw [h2, h1, hx]
        have HI := Lib.hid hlt
        have HI12 := Lib.hid h12
        have HWI := Lib.hid (show wrap64 ((i : Int) + 1) = ((i + 1 : Nat) : Int) by clear e23 e24; unfold wrap64; omega)
        clear hlt hi hi12 hsm h12 HP
        by_cases hz : s / 2 ^ i % 2 = 0
        · rw [if_pos hz] at hp
          have d2 : (x == 0) = true := by rw [hx, hz]; rfl
          have HP := Aside0.mk hp
          clear hp hx hz
          go_wp2
          go_roundg (l.length - (i + 1))
          case measure => have := HI.out; omega
          case rel => exact ⟨i + 1, b, HI.out, Nat.le_refl _, by rw [← HWI.out], rfl, HP, ⟨(by (with_reducible repeat (first | apply Gm.drewN | apply Gm.drew)); exact HG.out)⟩, ⟨(by first | exact HGR.out | exact gb_below HGR.out (pw_below_drewN (Below.refl _ _) _) | exact gb_below HGR.out (below_drew1 (Below.refl _ _)))⟩, ⟨(by (with_reducible repeat (first | refine blk_drewN ?_ _ | refine blk_drew ?_ | refine blk_alloc ?_ _)); exact BK4.out)⟩, ⟨(by (with_reducible repeat (first | refine blk_drewN ?_ _ | refine blk_drew ?_ | refine blk_alloc ?_ _)); exact BK7.out)⟩⟩
        · rw [if_neg hz] at hp
          have d2 : (x == 0) = false := by
            have hxne : x ≠ 0 := by
              generalize s / 2 ^ i % 2 = q at hx hz
              omega
            simpa using hxne
          replace hp := Option.bind_eq_some_iff.mp hp
          obtain ⟨⟨x1, y1, z1⟩, ht, hp⟩ := hp
          have HTK := Aside0.mk ht
          have HBIT := Lib.hid hz
          clear ht hz hx
          rcases b with _ | ⟨bx, by_, bz⟩
          · cases x1 with
            | true =>
              have HP := Aside0.mk hp
              clear hp
              go_wp2_with (first | ((with_reducible refine (take_calls HSU.out k HBEST.out s i HS4.out HI12.out HBIT.out k (true, y1, z1) HTK.out _ ?sg).mono ?_); (case sg => exact (by (with_reducible repeat (first | apply Gm.drewN | apply Gm.drew)); exact HG.out)); rintro e w3 ⟨rfl, hg, hgr⟩; have n0_ := Aside0.mk hg; have n1_ := Aside0.mk (World.grownBy.trans (by first | exact HGR.out | exact gb_below HGR.out (pw_below_drewN (Below.refl _ _) _) | exact gb_below HGR.out (below_drew1 (Below.refl _ _))) hgr); have n2_ := Aside0.mk (gb_far (by (with_reducible repeat (first | refine blk_drewN ?_ _ | refine blk_drew ?_ | refine blk_alloc ?_ _)); exact BK4.out) hgr (Nat.ne_of_gt (Nat.lt_of_lt_of_le HBM.out G4.out))); have n3_ := Aside0.mk (gb_far (by (with_reducible repeat (first | refine blk_drewN ?_ _ | refine blk_drew ?_ | refine blk_alloc ?_ _)); exact BK7.out) hgr (Nat.ne_of_gt (Nat.lt_of_lt_of_le HBM.out G7.out))); clear HG HGR BK4 BK7 hg hgr; have HG := n0_; have HGR := n1_; have BK4 := n2_; have BK7 := n3_; clear n0_ n1_ n2_ n3_; (try simp only [outV])) | ((with_reducible refine gate_dst (N := 10) rfl ?_); refine box_event ?hg (N := 10) ?hd (cs := #[.bool false, .int .i64 0, .int .i64 0]) (t := 95) ?hr ?_; (case hd => rfl); (case hg => rfl); (case hr => first | (go_simp; done) | (go_simp; rfl)); intro g10 hg w1 hbox hb; have G10 := Aside0.mk ((by rw [hg]; exact HGR.out.size) : w.heap.size ≤ g10); have N10 := Aside0.mk ((by first | exact trivial | (rw [hg]; exact ⟨Nat.ne_of_lt (blk_lt BK4.out), Nat.ne_of_lt (blk_lt BK7.out)⟩)) : g4 ≠ g10 ∧ g7 ≠ g10); have n0_ := Aside0.mk (HG.out.below hb); have n1_ := Aside0.mk (gb_below HGR.out hb); have mBK4_ := Aside0.mk (blk_below BK4.out hb); have mBK7_ := Aside0.mk (blk_below BK7.out hb); clear HG HGR BK4 BK7; have HG := n0_; have HGR := n1_; have BK4 := mBK4_; have BK7 := mBK7_; clear n0_ n1_ mBK4_ mBK7_; have BK10 := Aside0.mk hbox; clear hbox hb hg) | ((with_reducible refine out_store (gp := g10) (x := true) (y := y1) (z := z1) ?hgd 10 ?hd (c0 := .bool false) (c1 := .int .i64 0) (c2 := .int .i64 0) (t := 95) ?hb (fun hc0 hc1 hc2 hf0 hf1 hf2 => ?hr) ?_); (case hd => exact ⟨_, _, rfl⟩); (case hgd => rfl); (case hb => exact (by (with_reducible repeat (first | refine blk_drewN ?_ _ | refine blk_drew ?_ | refine blk_alloc ?_ _)); exact BK10.out)); (case hr => first | (go_simp; done) | (go_simp; rfl)); intro w5 hbox hgr; have n0_ := Aside0.mk (HG.out.far hgr (Nat.ne_of_lt (Nat.lt_of_lt_of_le HGL.out G10.out)) (Nat.ne_of_lt (Nat.lt_of_lt_of_le HBM.out G10.out)) (Nat.le_trans HW0.out G10.out)); have n1_ := Aside0.mk (gb_own HGR.out hgr G10.out); have mBK4_ := Aside0.mk (blk_grown BK4.out hgr (by simpa using N10.out.1)); have mBK7_ := Aside0.mk (blk_grown BK7.out hgr (by simpa using N10.out.2)); clear HG HGR BK10 BK4 BK7; have HG := n0_; have HGR := n1_; have BK10 := Aside0.mk hbox; have BK4 := mBK4_; have BK7 := mBK7_; clear n0_ n1_ hbox hgr mBK4_ mBK7_; have hx10_0 : w5.cell? ⟨g10, 0, none⟩ = some (.bool true) := (blk_cell BK10.out 0).trans rfl; have hx10_1 : w5.cell? ⟨g10, 1, none⟩ = some (.int .i64 y1) := (blk_cell BK10.out 1).trans rfl; have hx10_2 : w5.cell? ⟨g10, 2, none⟩ = some (.int .i64 z1) := (blk_cell BK10.out 2).trans rfl; have hx7_0 : w5.cell? ⟨g7, 0, none⟩ = some (.bool false) := (blk_cell BK7.out 0).trans rfl; have hx7_1 : w5.cell? ⟨g7, 1, none⟩ = some (.int .i64 0) := (blk_cell BK7.out 1).trans rfl; have hx7_2 : w5.cell? ⟨g7, 2, none⟩ = some (.int .i64 0) := (blk_cell BK7.out 2).trans rfl) | ((with_reducible refine out_store (gp := g7) (x := true) (y := y1) (z := z1) ?hgd 7 ?hd (c0 := .bool false) (c1 := .int .i64 0) (c2 := .int .i64 0) (t := 95) ?hb (fun hc0 hc1 hc2 hf0 hf1 hf2 => ?hr) ?_); (case hd => exact ⟨_, _, rfl⟩); (case hgd => rfl); (case hb => exact (by (with_reducible repeat (first | refine blk_drewN ?_ _ | refine blk_drew ?_ | refine blk_alloc ?_ _)); exact BK7.out)); (case hr => first | (go_simp; done) | (go_simp; rfl)); intro w5 hbox hgr; have n0_ := Aside0.mk (HG.out.far hgr (Nat.ne_of_lt (Nat.lt_of_lt_of_le HGL.out G7.out)) (Nat.ne_of_lt (Nat.lt_of_lt_of_le HBM.out G7.out)) (Nat.le_trans HW0.out G7.out)); have n1_ := Aside0.mk (gb_own HGR.out hgr G7.out); have mBK4_ := Aside0.mk (blk_grown BK4.out hgr (by simpa using N7.out)); clear HG HGR BK7 BK4; have HG := n0_; have HGR := n1_; have BK7 := Aside0.mk hbox; have BK4 := mBK4_; clear n0_ n1_ hbox hgr mBK4_))
              go_roundg (l.length - (i + 1))
              case measure => have := HI.out; omega
              case rel => exact ⟨i + 1, some (true, y1, z1), HI.out, Nat.le_refl _, by rw [← HWI.out], rfl, HP, ⟨(by (with_reducible repeat (first | apply Gm.drewN | apply Gm.drew)); exact HG.out)⟩, ⟨(by first | exact HGR.out | exact gb_below HGR.out (pw_below_drewN (Below.refl _ _) _) | exact gb_below HGR.out (below_drew1 (Below.refl _ _)))⟩, ⟨(by (with_reducible repeat (first | refine blk_drewN ?_ _ | refine blk_drew ?_ | refine blk_alloc ?_ _)); exact BK4.out)⟩, ⟨(by (with_reducible repeat (first | refine blk_drewN ?_ _ | refine blk_drew ?_ | refine blk_alloc ?_ _)); exact BK7.out)⟩⟩
            | false =>
              cases dg : decide (0 < z1) with
              | true =>
                have HP := Aside0.mk hp
                clear hp
                go_wp2_with (first | ((with_reducible refine (take_calls HSU.out k HBEST.out s i HS4.out HI12.out HBIT.out k (false, y1, z1) HTK.out _ ?sg).mono ?_); (case sg => exact (by (with_reducible repeat (first | apply Gm.drewN | apply Gm.drew)); exact HG.out)); rintro e w3 ⟨rfl, hg, hgr⟩; have n0_ := Aside0.mk hg; have n1_ := Aside0.mk (World.grownBy.trans (by first | exact HGR.out | exact gb_below HGR.out (pw_below_drewN (Below.refl _ _) _) | exact gb_below HGR.out (below_drew1 (Below.refl _ _))) hgr); have n2_ := Aside0.mk (gb_far (by (with_reducible repeat (first | refine blk_drewN ?_ _ | refine blk_drew ?_ | refine blk_alloc ?_ _)); exact BK4.out) hgr (Nat.ne_of_gt (Nat.lt_of_lt_of_le HBM.out G4.out))); have n3_ := Aside0.mk (gb_far (by (with_reducible repeat (first | refine blk_drewN ?_ _ | refine blk_drew ?_ | refine blk_alloc ?_ _)); exact BK7.out) hgr (Nat.ne_of_gt (Nat.lt_of_lt_of_le HBM.out G7.out))); clear HG HGR BK4 BK7 hg hgr; have HG := n0_; have HGR := n1_; have BK4 := n2_; have BK7 := n3_; clear n0_ n1_ n2_ n3_; (try simp only [outV])) | ((with_reducible refine gate_dst (N := 10) rfl ?_); refine box_event ?hg (N := 10) ?hd (cs := #[.bool false, .int .i64 0, .int .i64 0]) (t := 95) ?hr ?_; (case hd => rfl); (case hg => rfl); (case hr => first | (go_simp; done) | (go_simp; rfl)); intro g10 hg w1 hbox hb; have G10 := Aside0.mk ((by rw [hg]; exact HGR.out.size) : w.heap.size ≤ g10); have N10 := Aside0.mk ((by first | exact trivial | (rw [hg]; exact ⟨Nat.ne_of_lt (blk_lt BK4.out), Nat.ne_of_lt (blk_lt BK7.out)⟩)) : g4 ≠ g10 ∧ g7 ≠ g10); have n0_ := Aside0.mk (HG.out.below hb); have n1_ := Aside0.mk (gb_below HGR.out hb); have mBK4_ := Aside0.mk (blk_below BK4.out hb); have mBK7_ := Aside0.mk (blk_below BK7.out hb); clear HG HGR BK4 BK7; have HG := n0_; have HGR := n1_; have BK4 := mBK4_; have BK7 := mBK7_; clear n0_ n1_ mBK4_ mBK7_; have BK10 := Aside0.mk hbox; clear hbox hb hg) | ((with_reducible refine out_store (gp := g10) (x := false) (y := y1) (z := z1) ?hgd 10 ?hd (c0 := .bool false) (c1 := .int .i64 0) (c2 := .int .i64 0) (t := 95) ?hb (fun hc0 hc1 hc2 hf0 hf1 hf2 => ?hr) ?_); (case hd => exact ⟨_, _, rfl⟩); (case hgd => rfl); (case hb => exact (by (with_reducible repeat (first | refine blk_drewN ?_ _ | refine blk_drew ?_ | refine blk_alloc ?_ _)); exact BK10.out)); (case hr => first | (go_simp; done) | (go_simp; rfl)); intro w5 hbox hgr; have n0_ := Aside0.mk (HG.out.far hgr (Nat.ne_of_lt (Nat.lt_of_lt_of_le HGL.out G10.out)) (Nat.ne_of_lt (Nat.lt_of_lt_of_le HBM.out G10.out)) (Nat.le_trans HW0.out G10.out)); have n1_ := Aside0.mk (gb_own HGR.out hgr G10.out); have mBK4_ := Aside0.mk (blk_grown BK4.out hgr (by simpa using N10.out.1)); have mBK7_ := Aside0.mk (blk_grown BK7.out hgr (by simpa using N10.out.2)); clear HG HGR BK10 BK4 BK7; have HG := n0_; have HGR := n1_; have BK10 := Aside0.mk hbox; have BK4 := mBK4_; have BK7 := mBK7_; clear n0_ n1_ hbox hgr mBK4_ mBK7_; have hx10_0 : w5.cell? ⟨g10, 0, none⟩ = some (.bool false) := (blk_cell BK10.out 0).trans rfl; have hx10_1 : w5.cell? ⟨g10, 1, none⟩ = some (.int .i64 y1) := (blk_cell BK10.out 1).trans rfl; have hx10_2 : w5.cell? ⟨g10, 2, none⟩ = some (.int .i64 z1) := (blk_cell BK10.out 2).trans rfl; have hx7_0 : w5.cell? ⟨g7, 0, none⟩ = some (.bool false) := (blk_cell BK7.out 0).trans rfl; have hx7_1 : w5.cell? ⟨g7, 1, none⟩ = some (.int .i64 0) := (blk_cell BK7.out 1).trans rfl; have hx7_2 : w5.cell? ⟨g7, 2, none⟩ = some (.int .i64 0) := (blk_cell BK7.out 2).trans rfl) | ((with_reducible refine out_store (gp := g7) (x := false) (y := y1) (z := z1) ?hgd 7 ?hd (c0 := .bool false) (c1 := .int .i64 0) (c2 := .int .i64 0) (t := 95) ?hb (fun hc0 hc1 hc2 hf0 hf1 hf2 => ?hr) ?_); (case hd => exact ⟨_, _, rfl⟩); (case hgd => rfl); (case hb => exact (by (with_reducible repeat (first | refine blk_drewN ?_ _ | refine blk_drew ?_ | refine blk_alloc ?_ _)); exact BK7.out)); (case hr => first | (go_simp; done) | (go_simp; rfl)); intro w5 hbox hgr; have n0_ := Aside0.mk (HG.out.far hgr (Nat.ne_of_lt (Nat.lt_of_lt_of_le HGL.out G7.out)) (Nat.ne_of_lt (Nat.lt_of_lt_of_le HBM.out G7.out)) (Nat.le_trans HW0.out G7.out)); have n1_ := Aside0.mk (gb_own HGR.out hgr G7.out); have mBK4_ := Aside0.mk (blk_grown BK4.out hgr (by simpa using N7.out)); clear HG HGR BK7 BK4; have HG := n0_; have HGR := n1_; have BK7 := Aside0.mk hbox; have BK4 := mBK4_; clear n0_ n1_ hbox hgr mBK4_))
                go_roundg (l.length - (i + 1))
                case measure => have := HI.out; omega
                case rel => exact ⟨i + 1, some (false, y1, z1), HI.out, Nat.le_refl _, by rw [← HWI.out], rfl, HP, ⟨(by (with_reducible repeat (first | apply Gm.drewN | apply Gm.drew)); exact HG.out)⟩, ⟨(by first | exact HGR.out | exact gb_below HGR.out (pw_below_drewN (Below.refl _ _) _) | exact gb_below HGR.out (below_drew1 (Below.refl _ _)))⟩, ⟨(by (with_reducible repeat (first | refine blk_drewN ?_ _ | refine blk_drew ?_ | refine blk_alloc ?_ _)); exact BK4.out)⟩, ⟨(by (with_reducible repeat (first | refine blk_drewN ?_ _ | refine blk_drew ?_ | refine blk_alloc ?_ _)); exact BK7.out)⟩⟩
              | false =>
                have HP := Aside0.mk hp
                clear hp
                go_wp2_with (first | ((with_reducible refine (take_calls HSU.out k HBEST.out s i HS4.out HI12.out HBIT.out k (false, y1, z1) HTK.out _ ?sg).mono ?_); (case sg => exact (by (with_reducible repeat (first | apply Gm.drewN | apply Gm.drew)); exact HG.out)); rintro e w3 ⟨rfl, hg, hgr⟩; have n0_ := Aside0.mk hg; have n1_ := Aside0.mk (World.grownBy.trans (by first | exact HGR.out | exact gb_below HGR.out (pw_below_drewN (Below.refl _ _) _) | exact gb_below HGR.out (below_drew1 (Below.refl _ _))) hgr); have n2_ := Aside0.mk (gb_far (by (with_reducible repeat (first | refine blk_drewN ?_ _ | refine blk_drew ?_ | refine blk_alloc ?_ _)); exact BK4.out) hgr (Nat.ne_of_gt (Nat.lt_of_lt_of_le HBM.out G4.out))); have n3_ := Aside0.mk (gb_far (by (with_reducible repeat (first | refine blk_drewN ?_ _ | refine blk_drew ?_ | refine blk_alloc ?_ _)); exact BK7.out) hgr (Nat.ne_of_gt (Nat.lt_of_lt_of_le HBM.out G7.out))); clear HG HGR BK4 BK7 hg hgr; have HG := n0_; have HGR := n1_; have BK4 := n2_; have BK7 := n3_; clear n0_ n1_ n2_ n3_; (try simp only [outV])) | ((with_reducible refine gate_dst (N := 10) rfl ?_); refine box_event ?hg (N := 10) ?hd (cs := #[.bool false, .int .i64 0, .int .i64 0]) (t := 95) ?hr ?_; (case hd => rfl); (case hg => rfl); (case hr => first | (go_simp; done) | (go_simp; rfl)); intro g10 hg w1 hbox hb; have G10 := Aside0.mk ((by rw [hg]; exact HGR.out.size) : w.heap.size ≤ g10); have N10 := Aside0.mk ((by first | exact trivial | (rw [hg]; exact ⟨Nat.ne_of_lt (blk_lt BK4.out), Nat.ne_of_lt (blk_lt BK7.out)⟩)) : g4 ≠ g10 ∧ g7 ≠ g10); have n0_ := Aside0.mk (HG.out.below hb); have n1_ := Aside0.mk (gb_below HGR.out hb); have mBK4_ := Aside0.mk (blk_below BK4.out hb); have mBK7_ := Aside0.mk (blk_below BK7.out hb); clear HG HGR BK4 BK7; have HG := n0_; have HGR := n1_; have BK4 := mBK4_; have BK7 := mBK7_; clear n0_ n1_ mBK4_ mBK7_; have BK10 := Aside0.mk hbox; clear hbox hb hg) | ((with_reducible refine out_store (gp := g10) (x := false) (y := y1) (z := z1) ?hgd 10 ?hd (c0 := .bool false) (c1 := .int .i64 0) (c2 := .int .i64 0) (t := 95) ?hb (fun hc0 hc1 hc2 hf0 hf1 hf2 => ?hr) ?_); (case hd => exact ⟨_, _, rfl⟩); (case hgd => rfl); (case hb => exact (by (with_reducible repeat (first | refine blk_drewN ?_ _ | refine blk_drew ?_ | refine blk_alloc ?_ _)); exact BK10.out)); (case hr => first | (go_simp; done) | (go_simp; rfl)); intro w5 hbox hgr; have n0_ := Aside0.mk (HG.out.far hgr (Nat.ne_of_lt (Nat.lt_of_lt_of_le HGL.out G10.out)) (Nat.ne_of_lt (Nat.lt_of_lt_of_le HBM.out G10.out)) (Nat.le_trans HW0.out G10.out)); have n1_ := Aside0.mk (gb_own HGR.out hgr G10.out); have mBK4_ := Aside0.mk (blk_grown BK4.out hgr (by simpa using N10.out.1)); have mBK7_ := Aside0.mk (blk_grown BK7.out hgr (by simpa using N10.out.2)); clear HG HGR BK10 BK4 BK7; have HG := n0_; have HGR := n1_; have BK10 := Aside0.mk hbox; have BK4 := mBK4_; have BK7 := mBK7_; clear n0_ n1_ hbox hgr mBK4_ mBK7_; have hx10_0 : w5.cell? ⟨g10, 0, none⟩ = some (.bool false) := (blk_cell BK10.out 0).trans rfl; have hx10_1 : w5.cell? ⟨g10, 1, none⟩ = some (.int .i64 y1) := (blk_cell BK10.out 1).trans rfl; have hx10_2 : w5.cell? ⟨g10, 2, none⟩ = some (.int .i64 z1) := (blk_cell BK10.out 2).trans rfl; have hx7_0 : w5.cell? ⟨g7, 0, none⟩ = some (.bool false) := (blk_cell BK7.out 0).trans rfl; have hx7_1 : w5.cell? ⟨g7, 1, none⟩ = some (.int .i64 0) := (blk_cell BK7.out 1).trans rfl; have hx7_2 : w5.cell? ⟨g7, 2, none⟩ = some (.int .i64 0) := (blk_cell BK7.out 2).trans rfl) | ((with_reducible refine out_store (gp := g7) (x := false) (y := y1) (z := z1) ?hgd 7 ?hd (c0 := .bool false) (c1 := .int .i64 0) (c2 := .int .i64 0) (t := 95) ?hb (fun hc0 hc1 hc2 hf0 hf1 hf2 => ?hr) ?_); (case hd => exact ⟨_, _, rfl⟩); (case hgd => rfl); (case hb => exact (by (with_reducible repeat (first | refine blk_drewN ?_ _ | refine blk_drew ?_ | refine blk_alloc ?_ _)); exact BK7.out)); (case hr => first | (go_simp; done) | (go_simp; rfl)); intro w5 hbox hgr; have n0_ := Aside0.mk (HG.out.far hgr (Nat.ne_of_lt (Nat.lt_of_lt_of_le HGL.out G7.out)) (Nat.ne_of_lt (Nat.lt_of_lt_of_le HBM.out G7.out)) (Nat.le_trans HW0.out G7.out)); have n1_ := Aside0.mk (gb_own HGR.out hgr G7.out); have mBK4_ := Aside0.mk (blk_grown BK4.out hgr (by simpa using N7.out)); clear HG HGR BK7 BK4; have HG := n0_; have HGR := n1_; have BK7 := Aside0.mk hbox; have BK4 := mBK4_; clear n0_ n1_ hbox hgr mBK4_))
                go_roundg (l.length - (i + 1))
                case measure => have := HI.out; omega
                case rel => exact ⟨i + 1, some (false, y1, z1), HI.out, Nat.le_refl _, by rw [← HWI.out], rfl, HP, ⟨(by (with_reducible repeat (first | apply Gm.drewN | apply Gm.drew)); exact HG.out)⟩, ⟨(by first | exact HGR.out | exact gb_below HGR.out (pw_below_drewN (Below.refl _ _) _) | exact gb_below HGR.out (below_drew1 (Below.refl _ _)))⟩, ⟨(by (with_reducible repeat (first | refine blk_drewN ?_ _ | refine blk_drew ?_ | refine blk_alloc ?_ _)); exact BK4.out)⟩, ⟨(by (with_reducible repeat (first | refine blk_drewN ?_ _ | refine blk_drew ?_ | refine blk_alloc ?_ _)); exact BK7.out)⟩⟩
          · cases x1 with
            | true =>
              cases bx with
              | false =>
                have HP := Aside0.mk (show bestGo (takeX (bestF k a l) k a l s) s (l.length - (i + 1)) (i + 1) (some (true, y1, z1)) = some r by rw [← hp]; simp [pickO, betterB])
                clear hp
                go_wp2_with (first | ((with_reducible refine (take_calls HSU.out k HBEST.out s i HS4.out HI12.out HBIT.out k (true, y1, z1) HTK.out _ ?sg).mono ?_); (case sg => exact (by (with_reducible repeat (first | apply Gm.drewN | apply Gm.drew)); exact HG.out)); rintro e w3 ⟨rfl, hg, hgr⟩; have n0_ := Aside0.mk hg; have n1_ := Aside0.mk (World.grownBy.trans (by first | exact HGR.out | exact gb_below HGR.out (pw_below_drewN (Below.refl _ _) _) | exact gb_below HGR.out (below_drew1 (Below.refl _ _))) hgr); have n2_ := Aside0.mk (gb_far (by (with_reducible repeat (first | refine blk_drewN ?_ _ | refine blk_drew ?_ | refine blk_alloc ?_ _)); exact BK4.out) hgr (Nat.ne_of_gt (Nat.lt_of_lt_of_le HBM.out G4.out))); have n3_ := Aside0.mk (gb_far (by (with_reducible repeat (first | refine blk_drewN ?_ _ | refine blk_drew ?_ | refine blk_alloc ?_ _)); exact BK7.out) hgr (Nat.ne_of_gt (Nat.lt_of_lt_of_le HBM.out G7.out))); clear HG HGR BK4 BK7 hg hgr; have HG := n0_; have HGR := n1_; have BK4 := n2_; have BK7 := n3_; clear n0_ n1_ n2_ n3_; (try simp only [outV])) | ((with_reducible refine gate_dst (N := 10) rfl ?_); refine box_event ?hg (N := 10) ?hd (cs := #[.bool false, .int .i64 0, .int .i64 0]) (t := 95) ?hr ?_; (case hd => rfl); (case hg => rfl); (case hr => first | (go_simp; done) | (go_simp; rfl)); intro g10 hg w1 hbox hb; have G10 := Aside0.mk ((by rw [hg]; exact HGR.out.size) : w.heap.size ≤ g10); have N10 := Aside0.mk ((by first | exact trivial | (rw [hg]; exact ⟨Nat.ne_of_lt (blk_lt BK4.out), Nat.ne_of_lt (blk_lt BK7.out)⟩)) : g4 ≠ g10 ∧ g7 ≠ g10); have n0_ := Aside0.mk (HG.out.below hb); have n1_ := Aside0.mk (gb_below HGR.out hb); have mBK4_ := Aside0.mk (blk_below BK4.out hb); have mBK7_ := Aside0.mk (blk_below BK7.out hb); clear HG HGR BK4 BK7; have HG := n0_; have HGR := n1_; have BK4 := mBK4_; have BK7 := mBK7_; clear n0_ n1_ mBK4_ mBK7_; have BK10 := Aside0.mk hbox; clear hbox hb hg) | ((with_reducible refine out_store (gp := g10) (x := true) (y := y1) (z := z1) ?hgd 10 ?hd (c0 := .bool false) (c1 := .int .i64 0) (c2 := .int .i64 0) (t := 95) ?hb (fun hc0 hc1 hc2 hf0 hf1 hf2 => ?hr) ?_); (case hd => exact ⟨_, _, rfl⟩); (case hgd => rfl); (case hb => exact (by (with_reducible repeat (first | refine blk_drewN ?_ _ | refine blk_drew ?_ | refine blk_alloc ?_ _)); exact BK10.out)); (case hr => first | (go_simp; done) | (go_simp; rfl)); intro w5 hbox hgr; have n0_ := Aside0.mk (HG.out.far hgr (Nat.ne_of_lt (Nat.lt_of_lt_of_le HGL.out G10.out)) (Nat.ne_of_lt (Nat.lt_of_lt_of_le HBM.out G10.out)) (Nat.le_trans HW0.out G10.out)); have n1_ := Aside0.mk (gb_own HGR.out hgr G10.out); have mBK4_ := Aside0.mk (blk_grown BK4.out hgr (by simpa using N10.out.1)); have mBK7_ := Aside0.mk (blk_grown BK7.out hgr (by simpa using N10.out.2)); clear HG HGR BK10 BK4 BK7; have HG := n0_; have HGR := n1_; have BK10 := Aside0.mk hbox; have BK4 := mBK4_; have BK7 := mBK7_; clear n0_ n1_ hbox hgr mBK4_ mBK7_; have hx10_0 : w5.cell? ⟨g10, 0, none⟩ = some (.bool true) := (blk_cell BK10.out 0).trans rfl; have hx10_1 : w5.cell? ⟨g10, 1, none⟩ = some (.int .i64 y1) := (blk_cell BK10.out 1).trans rfl; have hx10_2 : w5.cell? ⟨g10, 2, none⟩ = some (.int .i64 z1) := (blk_cell BK10.out 2).trans rfl; have hx7_0 : w5.cell? ⟨g7, 0, none⟩ = some (.bool false) := (blk_cell BK7.out 0).trans rfl; have hx7_1 : w5.cell? ⟨g7, 1, none⟩ = some (.int .i64 by_) := (blk_cell BK7.out 1).trans rfl; have hx7_2 : w5.cell? ⟨g7, 2, none⟩ = some (.int .i64 bz) := (blk_cell BK7.out 2).trans rfl) | ((with_reducible refine out_store (gp := g7) (x := true) (y := y1) (z := z1) ?hgd 7 ?hd (c0 := .bool false) (c1 := .int .i64 by_) (c2 := .int .i64 bz) (t := 95) ?hb (fun hc0 hc1 hc2 hf0 hf1 hf2 => ?hr) ?_); (case hd => exact ⟨_, _, rfl⟩); (case hgd => rfl); (case hb => exact (by (with_reducible repeat (first | refine blk_drewN ?_ _ | refine blk_drew ?_ | refine blk_alloc ?_ _)); exact BK7.out)); (case hr => first | (go_simp; done) | (go_simp; rfl)); intro w5 hbox hgr; have n0_ := Aside0.mk (HG.out.far hgr (Nat.ne_of_lt (Nat.lt_of_lt_of_le HGL.out G7.out)) (Nat.ne_of_lt (Nat.lt_of_lt_of_le HBM.out G7.out)) (Nat.le_trans HW0.out G7.out)); have n1_ := Aside0.mk (gb_own HGR.out hgr G7.out); have mBK4_ := Aside0.mk (blk_grown BK4.out hgr (by simpa using N7.out)); clear HG HGR BK7 BK4; have HG := n0_; have HGR := n1_; have BK7 := Aside0.mk hbox; have BK4 := mBK4_; clear n0_ n1_ hbox hgr mBK4_))
                go_roundg (l.length - (i + 1))
                case measure => have := HI.out; omega
                case rel => exact ⟨i + 1, some (true, y1, z1), HI.out, Nat.le_refl _, by rw [← HWI.out], rfl, HP, ⟨(by (with_reducible repeat (first | apply Gm.drewN | apply Gm.drew)); exact HG.out)⟩, ⟨(by first | exact HGR.out | exact gb_below HGR.out (pw_below_drewN (Below.refl _ _) _) | exact gb_below HGR.out (below_drew1 (Below.refl _ _)))⟩, ⟨(by (with_reducible repeat (first | refine blk_drewN ?_ _ | refine blk_drew ?_ | refine blk_alloc ?_ _)); exact BK4.out)⟩, ⟨(by (with_reducible repeat (first | refine blk_drewN ?_ _ | refine blk_drew ?_ | refine blk_alloc ?_ _)); exact BK7.out)⟩⟩
              | true =>
                cases dl : decide (z1 < bz) with
                | true =>
                  have dl' := of_decide_eq_true dl
                  have HP := Aside0.mk (show bestGo (takeX (bestF k a l) k a l s) s (l.length - (i + 1)) (i + 1) (some (true, y1, z1)) = some r by rw [← hp]; simp [pickO, betterB, dl'])
                  clear hp
                  go_wp2_with (first | ((with_reducible refine (take_calls HSU.out k HBEST.out s i HS4.out HI12.out HBIT.out k (true, y1, z1) HTK.out _ ?sg).mono ?_); (case sg => exact (by (with_reducible repeat (first | apply Gm.drewN | apply Gm.drew)); exact HG.out)); rintro e w3 ⟨rfl, hg, hgr⟩; have n0_ := Aside0.mk hg; have n1_ := Aside0.mk (World.grownBy.trans (by first | exact HGR.out | exact gb_below HGR.out (pw_below_drewN (Below.refl _ _) _) | exact gb_below HGR.out (below_drew1 (Below.refl _ _))) hgr); have n2_ := Aside0.mk (gb_far (by (with_reducible repeat (first | refine blk_drewN ?_ _ | refine blk_drew ?_ | refine blk_alloc ?_ _)); exact BK4.out) hgr (Nat.ne_of_gt (Nat.lt_of_lt_of_le HBM.out G4.out))); have n3_ := Aside0.mk (gb_far (by (with_reducible repeat (first | refine blk_drewN ?_ _ | refine blk_drew ?_ | refine blk_alloc ?_ _)); exact BK7.out) hgr (Nat.ne_of_gt (Nat.lt_of_lt_of_le HBM.out G7.out))); clear HG HGR BK4 BK7 hg hgr; have HG := n0_; have HGR := n1_; have BK4 := n2_; have BK7 := n3_; clear n0_ n1_ n2_ n3_; (try simp only [outV])) | ((with_reducible refine gate_dst (N := 10) rfl ?_); refine box_event ?hg (N := 10) ?hd (cs := #[.bool false, .int .i64 0, .int .i64 0]) (t := 95) ?hr ?_; (case hd => rfl); (case hg => rfl); (case hr => first | (go_simp; done) | (go_simp; rfl)); intro g10 hg w1 hbox hb; have G10 := Aside0.mk ((by rw [hg]; exact HGR.out.size) : w.heap.size ≤ g10); have N10 := Aside0.mk ((by first | exact trivial | (rw [hg]; exact ⟨Nat.ne_of_lt (blk_lt BK4.out), Nat.ne_of_lt (blk_lt BK7.out)⟩)) : g4 ≠ g10 ∧ g7 ≠ g10); have n0_ := Aside0.mk (HG.out.below hb); have n1_ := Aside0.mk (gb_below HGR.out hb); have mBK4_ := Aside0.mk (blk_below BK4.out hb); have mBK7_ := Aside0.mk (blk_below BK7.out hb); clear HG HGR BK4 BK7; have HG := n0_; have HGR := n1_; have BK4 := mBK4_; have BK7 := mBK7_; clear n0_ n1_ mBK4_ mBK7_; have BK10 := Aside0.mk hbox; clear hbox hb hg) | ((with_reducible refine out_store (gp := g10) (x := true) (y := y1) (z := z1) ?hgd 10 ?hd (c0 := .bool false) (c1 := .int .i64 0) (c2 := .int .i64 0) (t := 95) ?hb (fun hc0 hc1 hc2 hf0 hf1 hf2 => ?hr) ?_); (case hd => exact ⟨_, _, rfl⟩); (case hgd => rfl); (case hb => exact (by (with_reducible repeat (first | refine blk_drewN ?_ _ | refine blk_drew ?_ | refine blk_alloc ?_ _)); exact BK10.out)); (case hr => first | (go_simp; done) | (go_simp; rfl)); intro w5 hbox hgr; have n0_ := Aside0.mk (HG.out.far hgr (Nat.ne_of_lt (Nat.lt_of_lt_of_le HGL.out G10.out)) (Nat.ne_of_lt (Nat.lt_of_lt_of_le HBM.out G10.out)) (Nat.le_trans HW0.out G10.out)); have n1_ := Aside0.mk (gb_own HGR.out hgr G10.out); have mBK4_ := Aside0.mk (blk_grown BK4.out hgr (by simpa using N10.out.1)); have mBK7_ := Aside0.mk (blk_grown BK7.out hgr (by simpa using N10.out.2)); clear HG HGR BK10 BK4 BK7; have HG := n0_; have HGR := n1_; have BK10 := Aside0.mk hbox; have BK4 := mBK4_; have BK7 := mBK7_; clear n0_ n1_ hbox hgr mBK4_ mBK7_; have hx10_0 : w5.cell? ⟨g10, 0, none⟩ = some (.bool true) := (blk_cell BK10.out 0).trans rfl; have hx10_1 : w5.cell? ⟨g10, 1, none⟩ = some (.int .i64 y1) := (blk_cell BK10.out 1).trans rfl; have hx10_2 : w5.cell? ⟨g10, 2, none⟩ = some (.int .i64 z1) := (blk_cell BK10.out 2).trans rfl; have hx7_0 : w5.cell? ⟨g7, 0, none⟩ = some (.bool true) := (blk_cell BK7.out 0).trans rfl; have hx7_1 : w5.cell? ⟨g7, 1, none⟩ = some (.int .i64 by_) := (blk_cell BK7.out 1).trans rfl; have hx7_2 : w5.cell? ⟨g7, 2, none⟩ = some (.int .i64 bz) := (blk_cell BK7.out 2).trans rfl) | ((with_reducible refine out_store (gp := g7) (x := true) (y := y1) (z := z1) ?hgd 7 ?hd (c0 := .bool true) (c1 := .int .i64 by_) (c2 := .int .i64 bz) (t := 95) ?hb (fun hc0 hc1 hc2 hf0 hf1 hf2 => ?hr) ?_); (case hd => exact ⟨_, _, rfl⟩); (case hgd => rfl); (case hb => exact (by (with_reducible repeat (first | refine blk_drewN ?_ _ | refine blk_drew ?_ | refine blk_alloc ?_ _)); exact BK7.out)); (case hr => first | (go_simp; done) | (go_simp; rfl)); intro w5 hbox hgr; have n0_ := Aside0.mk (HG.out.far hgr (Nat.ne_of_lt (Nat.lt_of_lt_of_le HGL.out G7.out)) (Nat.ne_of_lt (Nat.lt_of_lt_of_le HBM.out G7.out)) (Nat.le_trans HW0.out G7.out)); have n1_ := Aside0.mk (gb_own HGR.out hgr G7.out); have mBK4_ := Aside0.mk (blk_grown BK4.out hgr (by simpa using N7.out)); clear HG HGR BK7 BK4; have HG := n0_; have HGR := n1_; have BK7 := Aside0.mk hbox; have BK4 := mBK4_; clear n0_ n1_ hbox hgr mBK4_))
                  go_roundg (l.length - (i + 1))
                  case measure => have := HI.out; omega
                  case rel => exact ⟨i + 1, some (true, y1, z1), HI.out, Nat.le_refl _, by rw [← HWI.out], rfl, HP, ⟨(by (with_reducible repeat (first | apply Gm.drewN | apply Gm.drew)); exact HG.out)⟩, ⟨(by first | exact HGR.out | exact gb_below HGR.out (pw_below_drewN (Below.refl _ _) _) | exact gb_below HGR.out (below_drew1 (Below.refl _ _)))⟩, ⟨(by (with_reducible repeat (first | refine blk_drewN ?_ _ | refine blk_drew ?_ | refine blk_alloc ?_ _)); exact BK4.out)⟩, ⟨(by (with_reducible repeat (first | refine blk_drewN ?_ _ | refine blk_drew ?_ | refine blk_alloc ?_ _)); exact BK7.out)⟩⟩
                | false =>
                  have dl' := of_decide_eq_false dl
                  have HP := Aside0.mk (show bestGo (takeX (bestF k a l) k a l s) s (l.length - (i + 1)) (i + 1) (some (true, by_, bz)) = some r by rw [← hp]; simp [pickO, betterB, dl'])
                  clear hp
                  go_wp2_with (first | ((with_reducible refine (take_calls HSU.out k HBEST.out s i HS4.out HI12.out HBIT.out k (true, y1, z1) HTK.out _ ?sg).mono ?_); (case sg => exact (by (with_reducible repeat (first | apply Gm.drewN | apply Gm.drew)); exact HG.out)); rintro e w3 ⟨rfl, hg, hgr⟩; have n0_ := Aside0.mk hg; have n1_ := Aside0.mk (World.grownBy.trans (by first | exact HGR.out | exact gb_below HGR.out (pw_below_drewN (Below.refl _ _) _) | exact gb_below HGR.out (below_drew1 (Below.refl _ _))) hgr); have n2_ := Aside0.mk (gb_far (by (with_reducible repeat (first | refine blk_drewN ?_ _ | refine blk_drew ?_ | refine blk_alloc ?_ _)); exact BK4.out) hgr (Nat.ne_of_gt (Nat.lt_of_lt_of_le HBM.out G4.out))); have n3_ := Aside0.mk (gb_far (by (with_reducible repeat (first | refine blk_drewN ?_ _ | refine blk_drew ?_ | refine blk_alloc ?_ _)); exact BK7.out) hgr (Nat.ne_of_gt (Nat.lt_of_lt_of_le HBM.out G7.out))); clear HG HGR BK4 BK7 hg hgr; have HG := n0_; have HGR := n1_; have BK4 := n2_; have BK7 := n3_; clear n0_ n1_ n2_ n3_; (try simp only [outV])) | ((with_reducible refine gate_dst (N := 10) rfl ?_); refine box_event ?hg (N := 10) ?hd (cs := #[.bool false, .int .i64 0, .int .i64 0]) (t := 95) ?hr ?_; (case hd => rfl); (case hg => rfl); (case hr => first | (go_simp; done) | (go_simp; rfl)); intro g10 hg w1 hbox hb; have G10 := Aside0.mk ((by rw [hg]; exact HGR.out.size) : w.heap.size ≤ g10); have N10 := Aside0.mk ((by first | exact trivial | (rw [hg]; exact ⟨Nat.ne_of_lt (blk_lt BK4.out), Nat.ne_of_lt (blk_lt BK7.out)⟩)) : g4 ≠ g10 ∧ g7 ≠ g10); have n0_ := Aside0.mk (HG.out.below hb); have n1_ := Aside0.mk (gb_below HGR.out hb); have mBK4_ := Aside0.mk (blk_below BK4.out hb); have mBK7_ := Aside0.mk (blk_below BK7.out hb); clear HG HGR BK4 BK7; have HG := n0_; have HGR := n1_; have BK4 := mBK4_; have BK7 := mBK7_; clear n0_ n1_ mBK4_ mBK7_; have BK10 := Aside0.mk hbox; clear hbox hb hg) | ((with_reducible refine out_store (gp := g10) (x := true) (y := y1) (z := z1) ?hgd 10 ?hd (c0 := .bool false) (c1 := .int .i64 0) (c2 := .int .i64 0) (t := 95) ?hb (fun hc0 hc1 hc2 hf0 hf1 hf2 => ?hr) ?_); (case hd => exact ⟨_, _, rfl⟩); (case hgd => rfl); (case hb => exact (by (with_reducible repeat (first | refine blk_drewN ?_ _ | refine blk_drew ?_ | refine blk_alloc ?_ _)); exact BK10.out)); (case hr => first | (go_simp; done) | (go_simp; rfl)); intro w5 hbox hgr; have n0_ := Aside0.mk (HG.out.far hgr (Nat.ne_of_lt (Nat.lt_of_lt_of_le HGL.out G10.out)) (Nat.ne_of_lt (Nat.lt_of_lt_of_le HBM.out G10.out)) (Nat.le_trans HW0.out G10.out)); have n1_ := Aside0.mk (gb_own HGR.out hgr G10.out); have mBK4_ := Aside0.mk (blk_grown BK4.out hgr (by simpa using N10.out.1)); have mBK7_ := Aside0.mk (blk_grown BK7.out hgr (by simpa using N10.out.2)); clear HG HGR BK10 BK4 BK7; have HG := n0_; have HGR := n1_; have BK10 := Aside0.mk hbox; have BK4 := mBK4_; have BK7 := mBK7_; clear n0_ n1_ hbox hgr mBK4_ mBK7_; have hx10_0 : w5.cell? ⟨g10, 0, none⟩ = some (.bool true) := (blk_cell BK10.out 0).trans rfl; have hx10_1 : w5.cell? ⟨g10, 1, none⟩ = some (.int .i64 y1) := (blk_cell BK10.out 1).trans rfl; have hx10_2 : w5.cell? ⟨g10, 2, none⟩ = some (.int .i64 z1) := (blk_cell BK10.out 2).trans rfl; have hx7_0 : w5.cell? ⟨g7, 0, none⟩ = some (.bool true) := (blk_cell BK7.out 0).trans rfl; have hx7_1 : w5.cell? ⟨g7, 1, none⟩ = some (.int .i64 by_) := (blk_cell BK7.out 1).trans rfl; have hx7_2 : w5.cell? ⟨g7, 2, none⟩ = some (.int .i64 bz) := (blk_cell BK7.out 2).trans rfl) | ((with_reducible refine out_store (gp := g7) (x := true) (y := y1) (z := z1) ?hgd 7 ?hd (c0 := .bool true) (c1 := .int .i64 by_) (c2 := .int .i64 bz) (t := 95) ?hb (fun hc0 hc1 hc2 hf0 hf1 hf2 => ?hr) ?_); (case hd => exact ⟨_, _, rfl⟩); (case hgd => rfl); (case hb => exact (by (with_reducible repeat (first | refine blk_drewN ?_ _ | refine blk_drew ?_ | refine blk_alloc ?_ _)); exact BK7.out)); (case hr => first | (go_simp; done) | (go_simp; rfl)); intro w5 hbox hgr; have n0_ := Aside0.mk (HG.out.far hgr (Nat.ne_of_lt (Nat.lt_of_lt_of_le HGL.out G7.out)) (Nat.ne_of_lt (Nat.lt_of_lt_of_le HBM.out G7.out)) (Nat.le_trans HW0.out G7.out)); have n1_ := Aside0.mk (gb_own HGR.out hgr G7.out); have mBK4_ := Aside0.mk (blk_grown BK4.out hgr (by simpa using N7.out)); clear HG HGR BK7 BK4; have HG := n0_; have HGR := n1_; have BK7 := Aside0.mk hbox; have BK4 := mBK4_; clear n0_ n1_ hbox hgr mBK4_))
                  go_roundg (l.length - (i + 1))
                  case measure => have := HI.out; omega
                  case rel => exact ⟨i + 1, some (true, by_, bz), HI.out, Nat.le_refl _, by rw [← HWI.out], rfl, HP, ⟨(by (with_reducible repeat (first | apply Gm.drewN | apply Gm.drew)); exact HG.out)⟩, ⟨(by first | exact HGR.out | exact gb_below HGR.out (pw_below_drewN (Below.refl _ _) _) | exact gb_below HGR.out (below_drew1 (Below.refl _ _)))⟩, ⟨(by (with_reducible repeat (first | refine blk_drewN ?_ _ | refine blk_drew ?_ | refine blk_alloc ?_ _)); exact BK4.out)⟩, ⟨(by (with_reducible repeat (first | refine blk_drewN ?_ _ | refine blk_drew ?_ | refine blk_alloc ?_ _)); exact BK7.out)⟩⟩
            | false =>
              cases bx with
              | true =>
                have HP := Aside0.mk (show bestGo (takeX (bestF k a l) k a l s) s (l.length - (i + 1)) (i + 1) (some (true, by_, bz)) = some r by rw [← hp]; simp [pickO, betterB])
                clear hp
                go_wp2_with (first | ((with_reducible refine (take_calls HSU.out k HBEST.out s i HS4.out HI12.out HBIT.out k (false, y1, z1) HTK.out _ ?sg).mono ?_); (case sg => exact (by (with_reducible repeat (first | apply Gm.drewN | apply Gm.drew)); exact HG.out)); rintro e w3 ⟨rfl, hg, hgr⟩; have n0_ := Aside0.mk hg; have n1_ := Aside0.mk (World.grownBy.trans (by first | exact HGR.out | exact gb_below HGR.out (pw_below_drewN (Below.refl _ _) _) | exact gb_below HGR.out (below_drew1 (Below.refl _ _))) hgr); have n2_ := Aside0.mk (gb_far (by (with_reducible repeat (first | refine blk_drewN ?_ _ | refine blk_drew ?_ | refine blk_alloc ?_ _)); exact BK4.out) hgr (Nat.ne_of_gt (Nat.lt_of_lt_of_le HBM.out G4.out))); have n3_ := Aside0.mk (gb_far (by (with_reducible repeat (first | refine blk_drewN ?_ _ | refine blk_drew ?_ | refine blk_alloc ?_ _)); exact BK7.out) hgr (Nat.ne_of_gt (Nat.lt_of_lt_of_le HBM.out G7.out))); clear HG HGR BK4 BK7 hg hgr; have HG := n0_; have HGR := n1_; have BK4 := n2_; have BK7 := n3_; clear n0_ n1_ n2_ n3_; (try simp only [outV])) | ((with_reducible refine gate_dst (N := 10) rfl ?_); refine box_event ?hg (N := 10) ?hd (cs := #[.bool false, .int .i64 0, .int .i64 0]) (t := 95) ?hr ?_; (case hd => rfl); (case hg => rfl); (case hr => first | (go_simp; done) | (go_simp; rfl)); intro g10 hg w1 hbox hb; have G10 := Aside0.mk ((by rw [hg]; exact HGR.out.size) : w.heap.size ≤ g10); have N10 := Aside0.mk ((by first | exact trivial | (rw [hg]; exact ⟨Nat.ne_of_lt (blk_lt BK4.out), Nat.ne_of_lt (blk_lt BK7.out)⟩)) : g4 ≠ g10 ∧ g7 ≠ g10); have n0_ := Aside0.mk (HG.out.below hb); have n1_ := Aside0.mk (gb_below HGR.out hb); have mBK4_ := Aside0.mk (blk_below BK4.out hb); have mBK7_ := Aside0.mk (blk_below BK7.out hb); clear HG HGR BK4 BK7; have HG := n0_; have HGR := n1_; have BK4 := mBK4_; have BK7 := mBK7_; clear n0_ n1_ mBK4_ mBK7_; have BK10 := Aside0.mk hbox; clear hbox hb hg) | ((with_reducible refine out_store (gp := g10) (x := false) (y := y1) (z := z1) ?hgd 10 ?hd (c0 := .bool false) (c1 := .int .i64 0) (c2 := .int .i64 0) (t := 95) ?hb (fun hc0 hc1 hc2 hf0 hf1 hf2 => ?hr) ?_); (case hd => exact ⟨_, _, rfl⟩); (case hgd => rfl); (case hb => exact (by (with_reducible repeat (first | refine blk_drewN ?_ _ | refine blk_drew ?_ | refine blk_alloc ?_ _)); exact BK10.out)); (case hr => first | (go_simp; done) | (go_simp; rfl)); intro w5 hbox hgr; have n0_ := Aside0.mk (HG.out.far hgr (Nat.ne_of_lt (Nat.lt_of_lt_of_le HGL.out G10.out)) (Nat.ne_of_lt (Nat.lt_of_lt_of_le HBM.out G10.out)) (Nat.le_trans HW0.out G10.out)); have n1_ := Aside0.mk (gb_own HGR.out hgr G10.out); have mBK4_ := Aside0.mk (blk_grown BK4.out hgr (by simpa using N10.out.1)); have mBK7_ := Aside0.mk (blk_grown BK7.out hgr (by simpa using N10.out.2)); clear HG HGR BK10 BK4 BK7; have HG := n0_; have HGR := n1_; have BK10 := Aside0.mk hbox; have BK4 := mBK4_; have BK7 := mBK7_; clear n0_ n1_ hbox hgr mBK4_ mBK7_; have hx10_0 : w5.cell? ⟨g10, 0, none⟩ = some (.bool false) := (blk_cell BK10.out 0).trans rfl; have hx10_1 : w5.cell? ⟨g10, 1, none⟩ = some (.int .i64 y1) := (blk_cell BK10.out 1).trans rfl; have hx10_2 : w5.cell? ⟨g10, 2, none⟩ = some (.int .i64 z1) := (blk_cell BK10.out 2).trans rfl; have hx7_0 : w5.cell? ⟨g7, 0, none⟩ = some (.bool true) := (blk_cell BK7.out 0).trans rfl; have hx7_1 : w5.cell? ⟨g7, 1, none⟩ = some (.int .i64 by_) := (blk_cell BK7.out 1).trans rfl; have hx7_2 : w5.cell? ⟨g7, 2, none⟩ = some (.int .i64 bz) := (blk_cell BK7.out 2).trans rfl) | ((with_reducible refine out_store (gp := g7) (x := false) (y := y1) (z := z1) ?hgd 7 ?hd (c0 := .bool true) (c1 := .int .i64 by_) (c2 := .int .i64 bz) (t := 95) ?hb (fun hc0 hc1 hc2 hf0 hf1 hf2 => ?hr) ?_); (case hd => exact ⟨_, _, rfl⟩); (case hgd => rfl); (case hb => exact (by (with_reducible repeat (first | refine blk_drewN ?_ _ | refine blk_drew ?_ | refine blk_alloc ?_ _)); exact BK7.out)); (case hr => first | (go_simp; done) | (go_simp; rfl)); intro w5 hbox hgr; have n0_ := Aside0.mk (HG.out.far hgr (Nat.ne_of_lt (Nat.lt_of_lt_of_le HGL.out G7.out)) (Nat.ne_of_lt (Nat.lt_of_lt_of_le HBM.out G7.out)) (Nat.le_trans HW0.out G7.out)); have n1_ := Aside0.mk (gb_own HGR.out hgr G7.out); have mBK4_ := Aside0.mk (blk_grown BK4.out hgr (by simpa using N7.out)); clear HG HGR BK7 BK4; have HG := n0_; have HGR := n1_; have BK7 := Aside0.mk hbox; have BK4 := mBK4_; clear n0_ n1_ hbox hgr mBK4_))
                go_roundg (l.length - (i + 1))
                case measure => have := HI.out; omega
                case rel => exact ⟨i + 1, some (true, by_, bz), HI.out, Nat.le_refl _, by rw [← HWI.out], rfl, HP, ⟨(by (with_reducible repeat (first | apply Gm.drewN | apply Gm.drew)); exact HG.out)⟩, ⟨(by first | exact HGR.out | exact gb_below HGR.out (pw_below_drewN (Below.refl _ _) _) | exact gb_below HGR.out (below_drew1 (Below.refl _ _)))⟩, ⟨(by (with_reducible repeat (first | refine blk_drewN ?_ _ | refine blk_drew ?_ | refine blk_alloc ?_ _)); exact BK4.out)⟩, ⟨(by (with_reducible repeat (first | refine blk_drewN ?_ _ | refine blk_drew ?_ | refine blk_alloc ?_ _)); exact BK7.out)⟩⟩
              | false =>
                cases dg : decide (bz < z1) with
                | true =>
                  have dg' := of_decide_eq_true dg
                  have HP := Aside0.mk (show bestGo (takeX (bestF k a l) k a l s) s (l.length - (i + 1)) (i + 1) (some (false, y1, z1)) = some r by rw [← hp]; simp [pickO, betterB, dg'])
                  clear hp
                  go_wp2_with (first | ((with_reducible refine (take_calls HSU.out k HBEST.out s i HS4.out HI12.out HBIT.out k (false, y1, z1) HTK.out _ ?sg).mono ?_); (case sg => exact (by (with_reducible repeat (first | apply Gm.drewN | apply Gm.drew)); exact HG.out)); rintro e w3 ⟨rfl, hg, hgr⟩; have n0_ := Aside0.mk hg; have n1_ := Aside0.mk (World.grownBy.trans (by first | exact HGR.out | exact gb_below HGR.out (pw_below_drewN (Below.refl _ _) _) | exact gb_below HGR.out (below_drew1 (Below.refl _ _))) hgr); have n2_ := Aside0.mk (gb_far (by (with_reducible repeat (first | refine blk_drewN ?_ _ | refine blk_drew ?_ | refine blk_alloc ?_ _)); exact BK4.out) hgr (Nat.ne_of_gt (Nat.lt_of_lt_of_le HBM.out G4.out))); have n3_ := Aside0.mk (gb_far (by (with_reducible repeat (first | refine blk_drewN ?_ _ | refine blk_drew ?_ | refine blk_alloc ?_ _)); exact BK7.out) hgr (Nat.ne_of_gt (Nat.lt_of_lt_of_le HBM.out G7.out))); clear HG HGR BK4 BK7 hg hgr; have HG := n0_; have HGR := n1_; have BK4 := n2_; have BK7 := n3_; clear n0_ n1_ n2_ n3_; (try simp only [outV])) | ((with_reducible refine gate_dst (N := 10) rfl ?_); refine box_event ?hg (N := 10) ?hd (cs := #[.bool false, .int .i64 0, .int .i64 0]) (t := 95) ?hr ?_; (case hd => rfl); (case hg => rfl); (case hr => first | (go_simp; done) | (go_simp; rfl)); intro g10 hg w1 hbox hb; have G10 := Aside0.mk ((by rw [hg]; exact HGR.out.size) : w.heap.size ≤ g10); have N10 := Aside0.mk ((by first | exact trivial | (rw [hg]; exact ⟨Nat.ne_of_lt (blk_lt BK4.out), Nat.ne_of_lt (blk_lt BK7.out)⟩)) : g4 ≠ g10 ∧ g7 ≠ g10); have n0_ := Aside0.mk (HG.out.below hb); have n1_ := Aside0.mk (gb_below HGR.out hb); have mBK4_ := Aside0.mk (blk_below BK4.out hb); have mBK7_ := Aside0.mk (blk_below BK7.out hb); clear HG HGR BK4 BK7; have HG := n0_; have HGR := n1_; have BK4 := mBK4_; have BK7 := mBK7_; clear n0_ n1_ mBK4_ mBK7_; have BK10 := Aside0.mk hbox; clear hbox hb hg) | ((with_reducible refine out_store (gp := g10) (x := false) (y := y1) (z := z1) ?hgd 10 ?hd (c0 := .bool false) (c1 := .int .i64 0) (c2 := .int .i64 0) (t := 95) ?hb (fun hc0 hc1 hc2 hf0 hf1 hf2 => ?hr) ?_); (case hd => exact ⟨_, _, rfl⟩); (case hgd => rfl); (case hb => exact (by (with_reducible repeat (first | refine blk_drewN ?_ _ | refine blk_drew ?_ | refine blk_alloc ?_ _)); exact BK10.out)); (case hr => first | (go_simp; done) | (go_simp; rfl)); intro w5 hbox hgr; have n0_ := Aside0.mk (HG.out.far hgr (Nat.ne_of_lt (Nat.lt_of_lt_of_le HGL.out G10.out)) (Nat.ne_of_lt (Nat.lt_of_lt_of_le HBM.out G10.out)) (Nat.le_trans HW0.out G10.out)); have n1_ := Aside0.mk (gb_own HGR.out hgr G10.out); have mBK4_ := Aside0.mk (blk_grown BK4.out hgr (by simpa using N10.out.1)); have mBK7_ := Aside0.mk (blk_grown BK7.out hgr (by simpa using N10.out.2)); clear HG HGR BK10 BK4 BK7; have HG := n0_; have HGR := n1_; have BK10 := Aside0.mk hbox; have BK4 := mBK4_; have BK7 := mBK7_; clear n0_ n1_ hbox hgr mBK4_ mBK7_; have hx10_0 : w5.cell? ⟨g10, 0, none⟩ = some (.bool false) := (blk_cell BK10.out 0).trans rfl; have hx10_1 : w5.cell? ⟨g10, 1, none⟩ = some (.int .i64 y1) := (blk_cell BK10.out 1).trans rfl; have hx10_2 : w5.cell? ⟨g10, 2, none⟩ = some (.int .i64 z1) := (blk_cell BK10.out 2).trans rfl; have hx7_0 : w5.cell? ⟨g7, 0, none⟩ = some (.bool false) := (blk_cell BK7.out 0).trans rfl; have hx7_1 : w5.cell? ⟨g7, 1, none⟩ = some (.int .i64 by_) := (blk_cell BK7.out 1).trans rfl; have hx7_2 : w5.cell? ⟨g7, 2, none⟩ = some (.int .i64 bz) := (blk_cell BK7.out 2).trans rfl) | ((with_reducible refine out_store (gp := g7) (x := false) (y := y1) (z := z1) ?hgd 7 ?hd (c0 := .bool false) (c1 := .int .i64 by_) (c2 := .int .i64 bz) (t := 95) ?hb (fun hc0 hc1 hc2 hf0 hf1 hf2 => ?hr) ?_); (case hd => exact ⟨_, _, rfl⟩); (case hgd => rfl); (case hb => exact (by (with_reducible repeat (first | refine blk_drewN ?_ _ | refine blk_drew ?_ | refine blk_alloc ?_ _)); exact BK7.out)); (case hr => first | (go_simp; done) | (go_simp; rfl)); intro w5 hbox hgr; have n0_ := Aside0.mk (HG.out.far hgr (Nat.ne_of_lt (Nat.lt_of_lt_of_le HGL.out G7.out)) (Nat.ne_of_lt (Nat.lt_of_lt_of_le HBM.out G7.out)) (Nat.le_trans HW0.out G7.out)); have n1_ := Aside0.mk (gb_own HGR.out hgr G7.out); have mBK4_ := Aside0.mk (blk_grown BK4.out hgr (by simpa using N7.out)); clear HG HGR BK7 BK4; have HG := n0_; have HGR := n1_; have BK7 := Aside0.mk hbox; have BK4 := mBK4_; clear n0_ n1_ hbox hgr mBK4_))
                  go_roundg (l.length - (i + 1))
                  case measure => have := HI.out; omega
                  case rel => exact ⟨i + 1, some (false, y1, z1), HI.out, Nat.le_refl _, by rw [← HWI.out], rfl, HP, ⟨(by (with_reducible repeat (first | apply Gm.drewN | apply Gm.drew)); exact HG.out)⟩, ⟨(by first | exact HGR.out | exact gb_below HGR.out (pw_below_drewN (Below.refl _ _) _) | exact gb_below HGR.out (below_drew1 (Below.refl _ _)))⟩, ⟨(by (with_reducible repeat (first | refine blk_drewN ?_ _ | refine blk_drew ?_ | refine blk_alloc ?_ _)); exact BK4.out)⟩, ⟨(by (with_reducible repeat (first | refine blk_drewN ?_ _ | refine blk_drew ?_ | refine blk_alloc ?_ _)); exact BK7.out)⟩⟩
                | false =>
                  have dg' := of_decide_eq_false dg
                  have HP := Aside0.mk (show bestGo (takeX (bestF k a l) k a l s) s (l.length - (i + 1)) (i + 1) (some (false, by_, bz)) = some r by rw [← hp]; simp [pickO, betterB, dg'])
                  clear hp
                  go_wp2_with (first | ((with_reducible refine (take_calls HSU.out k HBEST.out s i HS4.out HI12.out HBIT.out k (false, y1, z1) HTK.out _ ?sg).mono ?_); (case sg => exact (by (with_reducible repeat (first | apply Gm.drewN | apply Gm.drew)); exact HG.out)); rintro e w3 ⟨rfl, hg, hgr⟩; have n0_ := Aside0.mk hg; have n1_ := Aside0.mk (World.grownBy.trans (by first | exact HGR.out | exact gb_below HGR.out (pw_below_drewN (Below.refl _ _) _) | exact gb_below HGR.out (below_drew1 (Below.refl _ _))) hgr); have n2_ := Aside0.mk (gb_far (by (with_reducible repeat (first | refine blk_drewN ?_ _ | refine blk_drew ?_ | refine blk_alloc ?_ _)); exact BK4.out) hgr (Nat.ne_of_gt (Nat.lt_of_lt_of_le HBM.out G4.out))); have n3_ := Aside0.mk (gb_far (by (with_reducible repeat (first | refine blk_drewN ?_ _ | refine blk_drew ?_ | refine blk_alloc ?_ _)); exact BK7.out) hgr (Nat.ne_of_gt (Nat.lt_of_lt_of_le HBM.out G7.out))); clear HG HGR BK4 BK7 hg hgr; have HG := n0_; have HGR := n1_; have BK4 := n2_; have BK7 := n3_; clear n0_ n1_ n2_ n3_; (try simp only [outV])) | ((with_reducible refine gate_dst (N := 10) rfl ?_); refine box_event ?hg (N := 10) ?hd (cs := #[.bool false, .int .i64 0, .int .i64 0]) (t := 95) ?hr ?_; (case hd => rfl); (case hg => rfl); (case hr => first | (go_simp; done) | (go_simp; rfl)); intro g10 hg w1 hbox hb; have G10 := Aside0.mk ((by rw [hg]; exact HGR.out.size) : w.heap.size ≤ g10); have N10 := Aside0.mk ((by first | exact trivial | (rw [hg]; exact ⟨Nat.ne_of_lt (blk_lt BK4.out), Nat.ne_of_lt (blk_lt BK7.out)⟩)) : g4 ≠ g10 ∧ g7 ≠ g10); have n0_ := Aside0.mk (HG.out.below hb); have n1_ := Aside0.mk (gb_below HGR.out hb); have mBK4_ := Aside0.mk (blk_below BK4.out hb); have mBK7_ := Aside0.mk (blk_below BK7.out hb); clear HG HGR BK4 BK7; have HG := n0_; have HGR := n1_; have BK4 := mBK4_; have BK7 := mBK7_; clear n0_ n1_ mBK4_ mBK7_; have BK10 := Aside0.mk hbox; clear hbox hb hg) | ((with_reducible refine out_store (gp := g10) (x := false) (y := y1) (z := z1) ?hgd 10 ?hd (c0 := .bool false) (c1 := .int .i64 0) (c2 := .int .i64 0) (t := 95) ?hb (fun hc0 hc1 hc2 hf0 hf1 hf2 => ?hr) ?_); (case hd => exact ⟨_, _, rfl⟩); (case hgd => rfl); (case hb => exact (by (with_reducible repeat (first | refine blk_drewN ?_ _ | refine blk_drew ?_ | refine blk_alloc ?_ _)); exact BK10.out)); (case hr => first | (go_simp; done) | (go_simp; rfl)); intro w5 hbox hgr; have n0_ := Aside0.mk (HG.out.far hgr (Nat.ne_of_lt (Nat.lt_of_lt_of_le HGL.out G10.out)) (Nat.ne_of_lt (Nat.lt_of_lt_of_le HBM.out G10.out)) (Nat.le_trans HW0.out G10.out)); have n1_ := Aside0.mk (gb_own HGR.out hgr G10.out); have mBK4_ := Aside0.mk (blk_grown BK4.out hgr (by simpa using N10.out.1)); have mBK7_ := Aside0.mk (blk_grown BK7.out hgr (by simpa using N10.out.2)); clear HG HGR BK10 BK4 BK7; have HG := n0_; have HGR := n1_; have BK10 := Aside0.mk hbox; have BK4 := mBK4_; have BK7 := mBK7_; clear n0_ n1_ hbox hgr mBK4_ mBK7_; have hx10_0 : w5.cell? ⟨g10, 0, none⟩ = some (.bool false) := (blk_cell BK10.out 0).trans rfl; have hx10_1 : w5.cell? ⟨g10, 1, none⟩ = some (.int .i64 y1) := (blk_cell BK10.out 1).trans rfl; have hx10_2 : w5.cell? ⟨g10, 2, none⟩ = some (.int .i64 z1) := (blk_cell BK10.out 2).trans rfl; have hx7_0 : w5.cell? ⟨g7, 0, none⟩ = some (.bool false) := (blk_cell BK7.out 0).trans rfl; have hx7_1 : w5.cell? ⟨g7, 1, none⟩ = some (.int .i64 by_) := (blk_cell BK7.out 1).trans rfl; have hx7_2 : w5.cell? ⟨g7, 2, none⟩ = some (.int .i64 bz) := (blk_cell BK7.out 2).trans rfl) | ((with_reducible refine out_store (gp := g7) (x := false) (y := y1) (z := z1) ?hgd 7 ?hd (c0 := .bool false) (c1 := .int .i64 by_) (c2 := .int .i64 bz) (t := 95) ?hb (fun hc0 hc1 hc2 hf0 hf1 hf2 => ?hr) ?_); (case hd => exact ⟨_, _, rfl⟩); (case hgd => rfl); (case hb => exact (by (with_reducible repeat (first | refine blk_drewN ?_ _ | refine blk_drew ?_ | refine blk_alloc ?_ _)); exact BK7.out)); (case hr => first | (go_simp; done) | (go_simp; rfl)); intro w5 hbox hgr; have n0_ := Aside0.mk (HG.out.far hgr (Nat.ne_of_lt (Nat.lt_of_lt_of_le HGL.out G7.out)) (Nat.ne_of_lt (Nat.lt_of_lt_of_le HBM.out G7.out)) (Nat.le_trans HW0.out G7.out)); have n1_ := Aside0.mk (gb_own HGR.out hgr G7.out); have mBK4_ := Aside0.mk (blk_grown BK4.out hgr (by simpa using N7.out)); clear HG HGR BK7 BK4; have HG := n0_; have HGR := n1_; have BK7 := Aside0.mk hbox; have BK4 := mBK4_; clear n0_ n1_ hbox hgr mBK4_))
                  go_roundg (l.length - (i + 1))
                  case measure => have := HI.out; omega
                  case rel => exact ⟨i + 1, some (false, by_, bz), HI.out, Nat.le_refl _, by rw [← HWI.out], rfl, HP, ⟨(by (with_reducible repeat (first | apply Gm.drewN | apply Gm.drew)); exact HG.out)⟩, ⟨(by first | exact HGR.out | exact gb_below HGR.out (pw_below_drewN (Below.refl _ _) _) | exact gb_below HGR.out (below_drew1 (Below.refl _ _)))⟩, ⟨(by (with_reducible repeat (first | refine blk_drewN ?_ _ | refine blk_drew ?_ | refine blk_alloc ?_ _)); exact BK4.out)⟩, ⟨(by (with_reducible repeat (first | refine blk_drewN ?_ _ | refine blk_drew ?_ | refine blk_alloc ?_ _)); exact BK7.out)⟩⟩
      · have d1 : decide ((i : Int) < (l.length : Int)) = false := decide_eq_false (by omega)
        obtain rfl : i = l.length := by omega
        have hp := HP.out
        rw [Nat.sub_self, bestGo] at hp
        injection hp with hp
        subst hp
        obtain ⟨⟨qx, qy, qz⟩, hq⟩ : ∃ q, b.getD (false, 0, 0) = q := ⟨_, rfl⟩
        have hro := HRO.out
        rw [hq] at hro
        subst hro
        have bk7 := BK7.out
        rw [hq] at bk7
        clear BK7
        have BK7 := Aside0.mk bk7
        clear hlt hi hi12 HP hq bk7 HRO
        go_wp2
        have BK4b := Aside0.mk (blk_drew BK4.out)
        have BK7b := Aside0.mk (blk_drew BK7.out)
        have HGb := Aside0.mk HG.out.drew
        have HGRb := Aside0.mk (gb_below HGR.out (below_drew1 (Below.refl _ _)))
        clear BK4 BK7 HG HGR
        refine start_ (n := 7) (S := fun w' => w'.cell? ⟨g, 2, none⟩ = some (.map (some bm)) ∧ w'.cell? ⟨g7, 0, none⟩ = some (.bool qx) ∧ w'.cell? ⟨g7, 1, none⟩ = some (.int .i64 qy) ∧ w'.cell? ⟨g7, 2, none⟩ = some (.int .i64 qz)) (ds := []) #[false, false, false, false, false, false, false] (by kernel_rfl) rfl rfl ⟨(blk_cell HGb.out.game 2).trans rfl, (blk_cell BK7b.out 0).trans rfl, (blk_cell BK7b.out 1).trans rfl, (blk_cell BK7b.out 2).trans rfl⟩ (fun hHeld => ?_)
        generalize wr.drew = w6 at BK4b BK7b HGb HGRb hHeld ⊢
        refine pure_ (i := 0) (N := some 79) (v := ?_) (a' := ?_) #[true, false, false, false, false, false, false] rfl rfl (by kernel_rfl) (fun _ _ _ h => h) (Or.inl ⟨by rfl, ?_⟩) ?_ ?_
        rotate_left
        · intro w'
          go_simp
          with_reducible rfl
        rotate_left
        · simp only [Act.put, List.setIfInBounds_toArray, List.set_cons_zero, List.set_cons_succ, i64_w, i32_w]
          rfl
        refine pure_ (i := 1) (N := some 80) (v := ?_) (a' := ?_) #[true, true, false, false, false, false, false] rfl rfl (by kernel_rfl) (fun _ _ _ h => h) (Or.inl ⟨by rfl, ?_⟩) ?_ ?_
        rotate_left
        · intro w'
          go_simp
          with_reducible rfl
        rotate_left
        · simp only [Act.put, List.setIfInBounds_toArray, List.set_cons_zero, List.set_cons_succ, i64_w, i32_w]
          rfl
        refine pure_ (i := 2) (N := some 81) (v := ?_) (a' := ?_) #[true, true, true, false, false, false, false] rfl rfl (by kernel_rfl) (fun _ _ _ h => h) (Or.inl ⟨by rfl, ?_⟩) ?_ ?_
        rotate_left
        · intro w'
          go_simp
          with_reducible rfl
        rotate_left
        · simp only [Act.put, List.setIfInBounds_toArray, List.set_cons_zero, List.set_cons_succ, i64_w, i32_w]
          rfl
        refine take_ (i := 3) (N := some 82) (v := ?_) (a' := ?_) #[true, true, true, true, false, false, false] rfl rfl (by kernel_rfl) (fun _ _ _ h => h) (Or.inl ⟨by rfl, ?_⟩) hHeld ?_ ?_
        rotate_left
        · rintro w' ⟨s0, s1, s2, s3⟩
          go_simp
          with_reducible rfl
        rotate_left
        · simp only [Act.put, List.setIfInBounds_toArray, List.set_cons_zero, List.set_cons_succ, i64_w, i32_w]
          rfl
        refine pure_ (i := 4) (N := some 83) (v := ?_) (a' := ?_) #[true, true, true, true, true, false, false] rfl rfl (by kernel_rfl) (fun _ _ _ h => h) (Or.inl ⟨by rfl, ?_⟩) ?_ ?_
        rotate_left
        · intro w'
          go_simp
          with_reducible rfl
        rotate_left
        · simp only [Act.put, List.setIfInBounds_toArray, List.set_cons_zero, List.set_cons_succ, i64_w, i32_w]
          rfl
        refine take_ (i := 5) (N := some 84) (v := ?_) (a' := ?_) #[true, true, true, true, true, true, false] rfl rfl (by kernel_rfl) (fun _ _ _ h => h) (Or.inl ⟨by rfl, ?_⟩) hHeld ?_ ?_
        rotate_left
        · rintro w' ⟨s0, s1, s2, s3⟩
          go_simp
          with_reducible rfl
        rotate_left
        · simp only [Act.put, List.setIfInBounds_toArray, List.set_cons_zero, List.set_cons_succ, i64_w, i32_w]
          rfl
        obtain ⟨w8, hrun, hg8, hgr8⟩ := HGb.out.put HSU.out HS4.out HO.out
        refine one_ (i := 6) (N := none) #[true, true, true, true, true, true, true] rfl rfl (by kernel_rfl) (by decide) (fun K hK => ?_)
        refine upd_step (by rfl) rfl rfl rfl rfl rfl hrun ?_
        have BK4c := Aside0.mk (gb_far BK4b.out hgr8 (Nat.ne_of_gt (Nat.lt_of_lt_of_le HBM.out G4.out)))
        have BK7c := Aside0.mk (gb_far BK7b.out hgr8 (Nat.ne_of_gt (Nat.lt_of_lt_of_le HBM.out G7.out)))
        have HGRc := Aside0.mk (World.grownBy.trans HGRb.out hgr8)
        have HGc := Aside0.mk hg8
        clear BK4b BK7b HGRb HGb hg8 hgr8 hrun
        refine hK.out _ _ ⟨(blk_cell HGc.out.game 2).trans rfl, (blk_cell BK7c.out 0).trans rfl, (blk_cell BK7c.out 1).trans rfl, (blk_cell BK7c.out 2).trans rfl⟩ (fun hHeld => ?_)
        clear hK K
        refine done_ (by kernel_rfl) ?_
        have BK4 := BK4c
        have BK7 := BK7c
        have HGR := HGRc
        have HG := HGc
        clear BK4c BK7c HGRc HGc
        have hx7_0 : w8.cell? ⟨g7, 0, none⟩ = some (.bool qx) := (blk_cell BK7.out 0).trans rfl
        have hx7_1 : w8.cell? ⟨g7, 1, none⟩ = some (.int .i64 qy) := (blk_cell BK7.out 1).trans rfl
        have hx7_2 : w8.cell? ⟨g7, 2, none⟩ = some (.int .i64 qz) := (blk_cell BK7.out 2).trans rfl
        go_wp2_with (first | ((with_reducible refine out_store (gp := g4) (x := qx) (y := qy) (z := qz) ?hgd 4 ?hd (c0 := .bool false) (c1 := .int .i64 0) (c2 := .int .i64 0) (t := 95) ?hb (fun hc0 hc1 hc2 hf0 hf1 hf2 => ?hr) ?_); (case hd => exact ⟨_, _, rfl⟩); (case hgd => rfl); (case hb => exact (by (with_reducible repeat (first | refine blk_drewN ?_ _ | refine blk_drew ?_ | refine blk_alloc ?_ _)); exact BK4.out)); (case hr => first | (go_simp; done) | (go_simp; rfl)); intro w5 hbox hgr; have n0_ := Aside0.mk (HG.out.far hgr (Nat.ne_of_lt (Nat.lt_of_lt_of_le HGL.out G4.out)) (Nat.ne_of_lt (Nat.lt_of_lt_of_le HBM.out G4.out)) (Nat.le_trans HW0.out G4.out)); have n1_ := Aside0.mk (gb_own HGR.out hgr G4.out); clear HG HGR BK4 ; have HG := n0_; have HGR := n1_; have BK4 := Aside0.mk hbox; clear n0_ n1_ hbox hgr ))
        refine bodyPost_ret (results_single rfl (.cell g4 95 #[.bool qx, .int .i64 qy, .int .i64 qz] (0, 0) _ rfl (by (with_reducible repeat (first | refine blk_drewN ?_ _ | refine blk_drew ?_ | refine blk_alloc ?_ _)); exact BK4.out) Try.underlying95 rfl (by kernel_rfl) .nil)) rfl ?_
        exact ⟨rfl, HG.out, HGR.out⟩
theorem best_at {w0 : World} {A0 : Option Addr} {c0 : Nat} {a : Int} {l : List Int} {g bm : Nat} (hsu : Setup w0 A0 c0 a l g bm) : ∀ k, BestAt w0 A0 c0 a l g bm k
  | 0 => fun _ _ _ _ h _ => by cases h
  | k + 1 => best_step hsu k (best_at hsu k)


/-! ### impl_TakeLine: function 49 -/
def lineGo (hm : Nat → Option Bool) (bst : Nat → Option (Bool × Int × Int)) : Nat → Nat → Option (List Int)
  | 0, _ => none
  | d + 1, s => (hm s).bind fun b => if b = true then some [] else (bst s).bind fun o => if 0 ≤ o.2.1 ∧ o.2.1 < 12 ∧ ¬ s / 2 ^ o.2.1.toNat % 2 = 0 then (lineGo hm bst d (s - 2 ^ o.2.1.toNat)).bind fun r => some (o.2.1 :: r) else none
theorem lineGo_mono {hm hm' : Nat → Option Bool} {bst bst' : Nat → Option (Bool × Int × Int)} (h1 : ∀ s, LeO (hm s) (hm' s)) (h2 : ∀ s, LeO (bst s) (bst' s)) : ∀ d s, LeO (lineGo hm bst d s) (lineGo hm' bst' d s)
  | 0, _ => LeO.refl _
  | d + 1, s => LeO.bind (h1 s) fun _ => LeO.ite (LeO.refl _) (LeO.bind (h2 s) fun _ => LeO.ite (LeO.bind (lineGo_mono h1 h2 d _) fun _ => LeO.refl _) (LeO.refl _))
def impl_TakeLine.f (k : Nat) (a0 : Int) (l0 : List Int) : Option (List Int × Bool) := (impl_isTaking.f k a0 l0).bind fun t => if t = true then (if l0.length ≤ 12 then (lineGo (fun s => impl_isHomely.f k a0 (leftR l0 s)) (bestF k a0 l0) (l0.length + 1) (2 ^ l0.length - 1)).bind fun r => some (r, true) else none) else some ([], false)
theorem impl_TakeLine.mono : ∀ a0 a1 k, LeO (impl_TakeLine.f k a0 a1) (impl_TakeLine.f (k + 1) a0 a1) := by
  intro a0 a1 k
  unfold impl_TakeLine.f
  exact LeO.bind (impl_isTaking.mono _ _ _) fun _ => LeO.ite (LeO.ite (LeO.bind (lineGo_mono (fun _ => impl_isHomely.mono _ _ _) (bestF_mono k a0 a1) _ _) fun _ => LeO.refl _) (LeO.refl _)) (LeO.refl _)
set_option maxHeartbeats 4000000 in
set_option maxRecDepth 100000 in
theorem impl_TakeLine.calls (k : Nat) (a0_0 : Int) (A0_1 : Option Addr) (c0_1 : Nat) (l0_1 : List Int) (r1 : List Int) (r2 : Bool) (w : World) (hr0_1 : Kd.C (Kd.int .i64) w A0_1 l0_1.length l0_1) (hc0_1 : l0_1.length ≤ c0_1) (h : impl_TakeLine.f k a0_0 l0_1 = some (r1, r2)) :
    Calls Try.prog 49 #[.agg #[.int .i64 a0_0, .slice A0_1 l0_1.length c0_1]] w fun e w' => ∃ v0_ : Value, e = .returned (.tuple #[v0_, .bool r2]) ∧ Kd.R (Kd.int .i64) 3 w' w.heap.size (fun _ => True) v0_ r1 ∧ Below w.heap.size w w' := by
  have hu28 := Try.underlying26
  have hu60 := Try.underlying95
  have hfl : ∀ (W : World) (x : Bool) (y z : Int), (Instr.field 95 (.agg #[.bool x, .int .i64 y, .int .i64 z]) 1).run Try.prog W = .ok (.int .i64 y) W := fun _ _ _ _ => by kernel_rfl
  have HR := Aside0.mk hr0_1
  have HC := Aside0.mk hc0_1
  have HB := Aside0.mk (Below.refl w.heap.size w)
  replace h := Option.bind_eq_some_iff.mp h
  obtain ⟨t, ht, h⟩ := h
  have HT := Aside0.mk ht
  clear hr0_1 hc0_1 ht
  cases t with
  | false =>
    rw [if_neg (by simp)] at h
    simp only [Option.some.injEq, Prod.mk.injEq] at h
    obtain ⟨rfl, rfl⟩ := h
    go_enter Try.func49, Try.ntmps49
    go_wp2_with (first | ((with_reducible refine gate_dst (N := 1) rfl ?_); refine box_event ?hg (N := 1) ?hd (cs := #[.int .i64 a0_0, .slice A0_1 l0_1.length c0_1]) (t := 26) ?hr ?_; (case hd => rfl); (case hg => rfl); (case hr => first | (go_simp; done) | (go_simp; rfl)); intro gl hg w1 hbox hb; have n0_ := Aside0.mk (below_step HB.out hb); clear HB; have HB := n0_; clear n0_; have BKL := Aside0.mk hbox; clear hbox hb hg; have hcz0 : w1.cell? ⟨gl, 0, none⟩ = some (.int .i64 a0_0) := (blk_cell BKL.out 0).trans rfl; have hcz1 : w1.cell? ⟨gl, 1, none⟩ = some (.slice A0_1 l0_1.length c0_1) := (blk_cell BKL.out 1).trans rfl; have hfz0 := blk_frozen BKL.out 0; have hfz1 := blk_frozen BKL.out 1) | ((with_reducible refine gate_callee (f := 112) rfl ?_); refine goesL_ (some 11) rfl rfl Try.func112 (by kernel_rfl) rfl #[.agg #[.int .i64 a0_0, .slice A0_1 l0_1.length c0_1]] rfl (by (try simp only [List.map_toArray, List.map_cons, List.map_nil]); first | done | rfl) ?_; (with_reducible refine (gameOf_calls k a0_0 A0_1 c0_1 l0_1 _ _ (Kd.C_below HR.out HB.out) HC.out HT.out).mono ?_); rintro e w2 ⟨g, bm, rfl, hgm, hmp, hne, hgw, hmw, hb⟩; refine ⟨_, rfl, ?_⟩; have HG := Aside0.mk hgm; have n0_ := Aside0.mk (below_step HB.out hb); clear HB; have HB := n0_; clear n0_ hgm hmp hne hgw hmw hb BKL))
    go_ret2
    exact ⟨_, rfl, Kd.R_nil _ _ _ _ _, HB.out⟩
  | true =>
    rw [if_pos rfl] at h
    by_cases hn : l0_1.length ≤ 12
    case neg => rw [if_neg hn] at h; cases h
    rw [if_pos hn] at h
    replace h := Option.bind_eq_some_iff.mp h
    obtain ⟨rr, hm, h⟩ := h
    simp only [Option.some.injEq, Prod.mk.injEq] at h
    obtain ⟨rfl, rfl⟩ := h
    have HN := Lib.hid hn
    have HM := Aside0.mk hm
    obtain ⟨S, hS⟩ : ∃ S, S = 2 ^ l0_1.length - 1 := ⟨_, rfl⟩
    have HS4 := Lib.hid (show S < 4096 by have h1 := Nat.pow_le_pow_right (n := 2) (by decide) hn; rw [hS]; omega)
    have HSS := Lib.hid hS
    clear hn hm hS
    go_enter Try.func49, Try.ntmps49
    go_wp2_with (first | ((with_reducible refine gate_dst (N := 1) rfl ?_); refine box_event ?hg (N := 1) ?hd (cs := #[.int .i64 a0_0, .slice A0_1 l0_1.length c0_1]) (t := 26) ?hr ?_; (case hd => rfl); (case hg => rfl); (case hr => first | (go_simp; done) | (go_simp; rfl)); intro gl hg w1 hbox hb; have n0_ := Aside0.mk (below_step HB.out hb); clear HB; have HB := n0_; clear n0_; have BKL := Aside0.mk hbox; clear hbox hb hg; have hcz0 : w1.cell? ⟨gl, 0, none⟩ = some (.int .i64 a0_0) := (blk_cell BKL.out 0).trans rfl; have hcz1 : w1.cell? ⟨gl, 1, none⟩ = some (.slice A0_1 l0_1.length c0_1) := (blk_cell BKL.out 1).trans rfl; have hfz0 := blk_frozen BKL.out 0; have hfz1 := blk_frozen BKL.out 1) | ((with_reducible refine gate_callee (f := 112) rfl ?_); refine goesL_ (some 11) rfl rfl Try.func112 (by kernel_rfl) rfl #[.agg #[.int .i64 a0_0, .slice A0_1 l0_1.length c0_1]] rfl (by (try simp only [List.map_toArray, List.map_cons, List.map_nil]); first | done | rfl) ?_; (with_reducible refine (gameOf_calls k a0_0 A0_1 c0_1 l0_1 _ _ (Kd.C_below HR.out HB.out) HC.out HT.out).mono ?_); rintro e w2 ⟨g, bm, rfl, hgm, hmp, hne, hgw, hmw, hb⟩; refine ⟨_, rfl, ?_⟩; have HSU := Aside0.mk (show Setup w A0_1 c0_1 a0_0 l0_1 g bm from ⟨HR.out, HC.out, HN.out, Nat.le_trans HB.out.size hgw, Nat.le_trans HB.out.size hmw, hne⟩); have HG := Aside0.mk (show Gm w A0_1 c0_1 a0_0 l0_1 g bm w2 from ⟨hgm, ⟨.map [], hmp, KnownD.nil _ _⟩, below_step HB.out hb⟩); have BKL2 := Aside0.mk (blk_below BKL.out hb); clear BKL HB hgm hmp hne hgw hmw hb; have hcy1 : w2.cell? ⟨gl, 1, none⟩ = some (.slice A0_1 l0_1.length c0_1) := (blk_cell BKL2.out 1).trans rfl) | ((with_reducible refine gate_dst (N := 16) rfl ?_); refine Kd.R_lit (Kd.int .i64) _ 3 ?hg (N := 16) ?hd (xs := ([] : List (Int))) (inner := []) (ok := (fun k_ => k_ ≠ g ∧ k_ ≠ bm)) (okp := fun _ => False) ?hr ?hp (fun _ hk => hk.elim) ⟨Nat.ne_of_gt HG.out.g_lt, Nat.ne_of_gt HG.out.bm_lt⟩ (Below.refl _ _) (Nat.le_refl _) (by simp) ?_; (case hd => rfl); (case hg => rfl); (case hr => first | (go_simp; done) | (go_simp; rfl)); (case hp => exact (Reps.none _ _)); intro v16 w3 ho hb hg_ hnew_; clear hg_ hnew_; have HRO := Aside0.mk (Kd.R_lower ho HG.out.2.2.size); have n0_ := Aside0.mk (HG.out.below hb); have hcx1 : w3.cell? ⟨gl, 1, none⟩ = some (.slice A0_1 l0_1.length c0_1) := (blk_cell (blk_below BKL2.out hb) 1).trans rfl; clear HG BKL2 ho hb; have HG := n0_; clear n0_) | ((with_reducible refine (full_calls a0_0 A0_1 c0_1 l0_1 (by have := HN.out; omega) g bm _ HG.out.game).mono ?_); rw [← HSS.out]; rintro e w4 ⟨rfl, ⟨q', rfl⟩⟩; have n0_ := Aside0.mk (HG.out.drewN q'); have n1_ := Aside0.mk (Kd.R_drewN HRO.out q'); clear HG HRO; have HG := n0_; have HRO := n1_; clear n0_ n1_))
    clear hcz0 hcz1 hfz0 hfz1 hcy1 hcx1
    go_loopg [6, 7] (l0_1.length + 1) (fun gg v6 v7 wr => ∃ (d s : Nat) (acc r2 : List Int), d ≤ gg ∧ d ≤ l0_1.length + 1 ∧ v7 = .int .u64 (s : Int) ∧ Aside0 (lineGo (fun s => impl_isHomely.f k a0_0 (leftR l0_1 s)) (bestF k a0_0 l0_1) d s = some r2) ∧ Aside0 (acc ++ r2 = rr) ∧ Aside0 (acc.length + d = l0_1.length + 1) ∧ Aside0 (s < 4096) ∧ Aside0 (Gm w A0_1 c0_1 a0_0 l0_1 g bm wr) ∧ Aside0 (Kd.R (Kd.int .i64) 3 wr w.heap.size (fun k_ => k_ ≠ g ∧ k_ ≠ bm) v6 acc))
    case atStart => exact ⟨l0_1.length + 1, S, [], rr, Nat.le_refl _, Nat.le_refl _, rfl, ⟨by rw [HSS.out]; exact HM.out⟩, ⟨rfl⟩, ⟨Nat.zero_add _⟩, ⟨HS4.out⟩, ⟨HG.out⟩, ⟨HRO.out⟩⟩
    case round =>
      clear HG HRO HM HS4 HSS
      obtain ⟨d, s, acc, r2, hgg, hd, rfl, HGO, HAC, HAL, HS4, HG, HRO⟩ := hrel
      have hgo := HGO.out
      cases d with
      | zero => rw [lineGo] at hgo; cases hgo
      | succ d =>
        rw [lineGo] at hgo
        replace hgo := Option.bind_eq_some_iff.mp hgo
        obtain ⟨b, hb, hgo⟩ := hgo
        have HH := Aside0.mk hb
        have HGG := Lib.hid hgg
        clear hb HGO hgg hd
        cases hb0 : b with
        | true =>
          subst hb0
          rw [if_pos rfl] at hgo
          injection hgo with hgo
          subst hgo
          have hac := HAC.out
          rw [List.append_nil] at hac
          have HAA := Aside0.mk hac
          clear hac HAC
          go_wp2_with (first | ((with_reducible refine (isOver_calls k a0_0 A0_1 c0_1 l0_1 (by have := HN.out; omega) s (by have := HS4.out; omega) true g bm _ HG.out.game (HSU.out.C HG.out) HSU.out.cap HH.out).mono ?_); rintro e w5 ⟨rfl, hb⟩; have n0_ := Aside0.mk (HG.out.below hb); have n1_ := Aside0.mk (Kd.R_below HRO.out hb); clear HG HRO hb; have HG := n0_; have HRO := n1_; clear n0_ n1_))
          go_ret2
          exact ⟨_, rfl, by rw [← HAA.out]; exact Kd.R_mono HRO.out (fun _ _ => trivial), HG.out.2.2⟩
        | false =>
          subst hb0
          rw [if_neg (by simp)] at hgo
          replace hgo := Option.bind_eq_some_iff.mp hgo
          obtain ⟨⟨x, y, z⟩, ho, hgo⟩ := hgo
          by_cases hc : 0 ≤ y ∧ y < 12 ∧ ¬ s / 2 ^ y.toNat % 2 = 0
          case neg => rw [if_neg hc] at hgo; cases hgo
          rw [if_pos hc] at hgo
          obtain ⟨t, rfl⟩ : ∃ t : Nat, y = t := ⟨y.toNat, by omega⟩
          rw [show ((t : Int)).toNat = t from rfl] at hgo hc
          replace hgo := Option.bind_eq_some_iff.mp hgo
          obtain ⟨r3, h3, hgo⟩ := hgo
          injection hgo with hgo
          have HO := Aside0.mk ho
          have ht12 : t < 12 := by omega
          have HTL := Lib.hid ht12
          have ec := clrE_eq s t HS4.out ht12 hc.2.2
          rw [← show min t 64 = t from Nat.min_eq_left (by clear ec; omega)] at ec
          rw [show s - 2 ^ min t 64 = s - 2 ^ t by rw [Nat.min_eq_left (by clear ec; omega)]] at ec
          obtain ⟨s2, hs2⟩ : ∃ s2, s2 = s - 2 ^ t := ⟨_, rfl⟩
          rw [← hs2] at ec h3
          have HS2 := Lib.hid (show s2 < 4096 by rw [hs2]; exact Nat.lt_of_le_of_lt (Nat.sub_le _ _) HS4.out)
          have H3 := Aside0.mk h3
          have HGO2 := Aside0.mk hgo
          clear ho hc h3 ht12 hs2 hgo
          go_wp2_with (first | ((with_reducible refine (isOver_calls k a0_0 A0_1 c0_1 l0_1 (by have := HN.out; omega) s (by have := HS4.out; omega) false g bm _ HG.out.game (HSU.out.C HG.out) HSU.out.cap HH.out).mono ?_); rintro e w5 ⟨rfl, hb⟩; have n0_ := Aside0.mk (HG.out.below hb); have n1_ := Aside0.mk (Kd.R_below HRO.out hb); clear HG HRO hb; have HG := n0_; have HRO := n1_; clear n0_ n1_) | ((with_reducible refine ((best_at HSU.out k).calls s HS4.out x (t : Int) z HO.out HG.out).mono ?_); rintro e w6 ⟨rfl, hgm, hgr⟩; have n0_ := Aside0.mk hgm; have n1_ := Aside0.mk (Kd.R_grown HRO.out hgr (fun k_ hk_ e_ => hk_.2 (by injection e_))); clear HG HRO hgm hgr; have HG := n0_; have HRO := n1_; clear n0_ n1_) | ((with_reducible refine gate_builtin (b := .append) (xs := #[.tmp 27, .tmp 29]) rfl ?_); at_builtin; refine Kd.R_append (Kd.int .i64) (w0 := w) w.heap.size rfl (.tmp 27) (.tmp 29) 24 3 (.int .i64 0) 8 rfl Try.underlying24 info3 rfl (by decide) (by omega) u6 acc (t : Int) [.int .i64 (t : Int)] (fun k_ => k_ ≠ g ∧ k_ ≠ bm) (fun _ => False) rfl rfl ?aP (fun _ hk => hk.elim) ?aF ?aO ?aB ?aS ?aL ?_; (case aP => exact rfl); (case aB => exact HG.out.2.2); (case aF => exact (fun k_ hk => ⟨Nat.ne_of_gt (Nat.lt_of_lt_of_le HG.out.g_lt hk), Nat.ne_of_gt (Nat.lt_of_lt_of_le HG.out.bm_lt hk)⟩)); (case aO => exact HRO.out); (case aS => exact HG.out.2.2.size); (case aL => exact (by have := HN.out; have := HAL.out; omega)); intro v2 w2 ho hb hg hat; have n0_ := Aside0.mk (HG.out.row hg (fun k_ e_ => ⟨HRO.out.1 k_ e_, Kd.R_base HRO.out k_ e_⟩)); have n1_ := Aside0.mk ho; clear HG HRO ho hb hg hat; have HG := n0_; have HRO := n1_; clear n0_ n1_))
          go_roundg d
          case measure => have := HGG.out; omega
          case rel => exact ⟨d, s2, acc ++ [(t : Int)], r3, Nat.le_refl _, by have := HAL.out; omega, rfl, H3, ⟨by rw [← HAC.out, ← HGO2.out, List.append_assoc]; rfl⟩, ⟨by rw [List.length_append]; have := HAL.out; simp; omega⟩, ⟨HS2.out⟩, HG, HRO⟩


/-! ### spec_gaHome: function 121 -/
def spec_gaHome.l0 : Nat → List Int → Int → Int → Option (Bool)
 | 0, _, _, _ => none
 | k + 1, x9, x10, x11 => if x11 < x10 then (if 0 ≤ x11 then (if x11 < (x9.length : Int) then (if x11 = (rd x9 x11) then (spec_gaHome.l0 k x9 x10 (wrap64 (x11 + 1))) else (some false)) else (none)) else (none)) else (some true)
def spec_gaHome.f (k : Nat) (a0 : Int) (l1 : List Int) : Option (Bool) := (spec_laResult.f k a0 l1).bind fun t1205 => (spec_gaHome.l0 k t1205 (t1205.length : Int) 0)
theorem spec_gaHome.mono_l : ∀ k, (∀ y0 y1 y2, LeO (spec_gaHome.l0 k y0 y1 y2) (spec_gaHome.l0 (k + 1) y0 y1 y2))
 | 0 => fun _ _ _ r h => by simp [spec_gaHome.l0] at h
 | k + 1 => by
  have ih0 := spec_gaHome.mono_l k
  ·intro y0 y1 y2
   unfold spec_gaHome.l0
   repeat' first
   | (with_reducible exact ih0 _ _ _)
   | (with_reducible exact spec_laResult.mono _ _ _)
   | (with_reducible exact LeO.refl _)
   | (with_reducible exact LeO.none _)
   | (with_reducible refine LeO.ite ?_ ?_)
   | (with_reducible refine LeO.bind ?_ (fun _ => ?_))
   | exact ih0 _ _ _
   | exact spec_laResult.mono _ _ _
   | exact LeO.none _
   | refine LeO.ite ?_ ?_
   | refine LeO.bind ?_ (fun _ => ?_)
theorem spec_gaHome.mono : ∀ a0 a1 k, LeO (spec_gaHome.f k a0 a1) (spec_gaHome.f (k + 1) a0 a1) := by
 intro a0 a1 k
 have ih0 := spec_gaHome.mono_l k
 unfold spec_gaHome.f
 repeat' first
  | (with_reducible exact ih0 _ _ _)
  | (with_reducible exact spec_laResult.mono _ _ _)
  | (with_reducible exact LeO.refl _)
  | (with_reducible exact LeO.none _)
  | (with_reducible refine LeO.ite ?_ ?_)
  | (with_reducible refine LeO.bind ?_ (fun _ => ?_))
  | exact ih0 _ _ _
  | exact spec_laResult.mono _ _ _
  | exact LeO.none _
  | refine LeO.ite ?_ ?_
  | refine LeO.bind ?_ (fun _ => ?_)
set_option maxHeartbeats 8000000 in
set_option maxRecDepth 100000 in
theorem spec_gaHome.calls (k : Nat) (a0 : Int) (A1 : Option Addr) (c1 : Nat) (l1 : List Int) (r : Bool) (w : World) (hr1 : Kd.C (Kd.int .i64) w A1 l1.length l1) (hc1 : l1.length ≤ c1) (h : spec_gaHome.f k a0 l1 = some r) :
 Calls Try.prog 121 #[.int .i64 a0, .slice A1 l1.length c1] w fun e w' => e = .returned (.bool r) ∧ Below w.heap.size w w' := by
 have HR1 := Aside0.mk hr1
 have HC1 := Aside0.mk hc1
 clear hr1 hc1
 have HB := Aside0.mk (Below.refl w.heap.size w)
 have H : ((spec_laResult.f k a0 l1).bind fun t1205 => (spec_gaHome.l0 k t1205 (t1205.length : Int) 0)) = some r := h
 clear h
 replace H := Option.bind_eq_some_iff.mp H
 obtain ⟨t1205, A30, H⟩ := H
 (try dsimp only at H)
 have A3 := Aside0.mk A30
 clear A30
 have H' := Aside0.mk H
 clear H
 go_enter Try.func121, Try.ntmps121
 go_wp2_with (first | ((with_reducible refine gate_callee (f := 109) rfl ?_); refine gl_ (some 9) rfl rfl Try.func109 (by kernel_rfl) rfl #[.int .i64 a0, .slice A1 l1.length c1] rfl ?_; (with_reducible refine (spec_laResult.calls k a0 _ _ l1 t1205 _ ?side1 ?side2 A3.out).mono ?_); (case side1 => repeat (first | exact HR1.out | (with_reducible refine Kd.C_alloc ?_ _) | (with_reducible refine Kd.C_drewN ?_ _) | (with_reducible refine Kd.C_drew ?_))); (case side2 => exact HC1.out); rintro e w4 ⟨v1206, rfl, ho0, hb⟩; refine ⟨_, rfl, ?_⟩; have HO1207 := Aside0.mk (Kd.R_lower ho0 (below_size (Bl_ HB))); replace HB := Aside0.mk (below_step (Bl_ HB) hb); (try clear hb); (try clear hb2); (try clear hk); (try clear hi); (try clear ho0); obtain ⟨Ao5, co5, eo5⟩ := Kd.R_slice HO1207.out; subst eo5))
 go_loopg [11] k (fun kq v11 w' => ∃ (x11_1 : Int), v11 = .int .i64 x11_1 ∧ Aside0 (spec_gaHome.l0 kq t1205 (t1205.length : Int) x11_1 = some r) ∧ Aside0 (kq ≤ k) ∧ Aside0 (Kd.R (Kd.int .i64) 3 w' w.heap.size (fun _ => True) (.slice Ao5 t1205.length co5) t1205) ∧ Aside0 (Below w.heap.size w w'))
 case atStart => exact ⟨(0), (by first | rfl | (simp; done) | (simp [*]; done)), H', ⟨Nat.le_refl _⟩, ⟨Rl_ HO1207.out⟩, ⟨Bl_ HB⟩⟩
 case round =>
  clear H'
  try clear c1
  try clear p2
  obtain ⟨x11_1, rfl, HA, HK1, HO_9, HB⟩ := hrel
  cases gk with
  | zero => exact absurd HA.out (by simp [spec_gaHome.l0])
  | succ k1 =>
   have H := HA.out
   clear HA
   simp only [spec_gaHome.l0] at H
   by_cases c6 : x11_1 < (t1205.length : Int)
   ·rw [if_pos c6] at H
    have c6b0 : decide (x11_1 < (t1205.length : Int)) = true := decide_eq_true c6
    clear c6
    by_cases c7 : 0 ≤ x11_1
    rotate_left
    ·rw [if_neg c7] at H
     exact absurd H (by simp)
    rw [if_pos c7] at H
    have c7b0 : decide (0 ≤ x11_1) = true := decide_eq_true c7
    clear c7
    by_cases c8 : x11_1 < (t1205.length : Int)
    rotate_left
    ·rw [if_neg c8] at H
     exact absurd H (by simp)
    rw [if_pos c8] at H
    have c8b0 : decide (x11_1 < (t1205.length : Int)) = true := decide_eq_true c8
    clear c8
    by_cases c9 : x11_1 = (rd t1205 x11_1)
    ·rw [if_pos c9] at H
     have c9b0 : (x11_1 == (rd t1205 x11_1)) = true := beq_iff_eq.mpr c9
     have c9b1 : (x11_1 != (rd t1205 x11_1)) = false := bne_eq_false_iff_eq.mpr c9
     clear c9
     have H' := Aside0.mk H
     clear H
     have p1208 : 0 ≤ (x11_1 : Int) := of_decide_eq_true (by first | (with_reducible assumption) | assumption)
     have q1208 : x11_1 < (t1205.length : Int) := of_decide_eq_true (by first | (with_reducible assumption) | assumption)
     obtain ⟨ad1208, e1208, hx1208_0⟩ := Kd.at_int (Kd.R_reads' HO_9.out).2.2 x11_1 p1208 q1208
     cases e1208
     replace p1208 := eq_true p1208
     replace q1208 := eq_true q1208
     go_wp2
     go_roundg k1
     case measure => have := HK1.out; omega
     case rel => exact ⟨(wrap64 (x11_1 + 1)), (by first | rfl | (simp; done) | (simp [*]; done)), H', ⟨by have := HK1.out; omega⟩, ⟨Rl_ HO_9.out⟩, ⟨Bl_ HB⟩⟩
    rw [if_neg c9] at H
    have c9b0 : (x11_1 == (rd t1205 x11_1)) = false := beq_eq_false_iff_ne.mpr c9
    have c9b1 : (x11_1 != (rd t1205 x11_1)) = true := bne_iff_ne.mpr c9
    obtain rfl := Option.some.inj H
    have p1208 : 0 ≤ (x11_1 : Int) := of_decide_eq_true (by first | (with_reducible assumption) | assumption)
    have q1208 : x11_1 < (t1205.length : Int) := of_decide_eq_true (by first | (with_reducible assumption) | assumption)
    obtain ⟨ad1208, e1208, hx1208_0⟩ := Kd.at_int (Kd.R_reads' HO_9.out).2.2 x11_1 p1208 q1208
    cases e1208
    replace p1208 := eq_true p1208
    replace q1208 := eq_true q1208
    go_wp2
    go_ret
    exact ⟨by first | rfl | (simp [errW_none, errW_some] <;> rfl) | (simp [*, errW_none, errW_some] <;> rfl), Bl_ HB⟩
   rw [if_neg c6] at H
   have c6b0 : decide (x11_1 < (t1205.length : Int)) = false := decide_eq_false c6
   clear c6
   obtain rfl := Option.some.inj H
   go_wp2
   go_ret
   exact ⟨by first | rfl | (simp [errW_none, errW_some] <;> rfl) | (simp [*, errW_none, errW_some] <;> rfl), Bl_ HB⟩

/-! ### spec_gaTaking: function 116 -/
def spec_gaTaking.f (k : Nat) (a0_0 : Int) (l0_1 : List Int) : Option (Bool) := (spec_laGood.f k a0_0 l0_1).bind fun t1210 => (if t1210 = true then (if (l0_1.length : Int) ≤ 12 then ((spec_gaHome.f k a0_0 l0_1).bind fun t1211 => (some (!t1211))) else (some false)) else (some false))
theorem spec_gaTaking.mono : ∀ a0 a1 k, LeO (spec_gaTaking.f k a0 a1) (spec_gaTaking.f (k + 1) a0 a1) := by
 intro a0 a1 k
 unfold spec_gaTaking.f
 repeat' first
  | (with_reducible exact spec_gaHome.mono _ _ _)
  | (with_reducible exact spec_laGood.mono _ _ _)
  | (with_reducible exact LeO.refl _)
  | (with_reducible exact LeO.none _)
  | (with_reducible refine LeO.ite ?_ ?_)
  | (with_reducible refine LeO.bind ?_ (fun _ => ?_))
  | exact spec_gaHome.mono _ _ _
  | exact spec_laGood.mono _ _ _
  | exact LeO.none _
  | refine LeO.ite ?_ ?_
  | refine LeO.bind ?_ (fun _ => ?_)
set_option maxHeartbeats 8000000 in
set_option maxRecDepth 100000 in
theorem spec_gaTaking.calls (k : Nat) (a0_0 : Int) (A0_1 : Option Addr) (c0_1 : Nat) (l0_1 : List Int) (r : Bool) (w : World) (hr0_1 : Kd.C (Kd.int .i64) w A0_1 l0_1.length l0_1) (hc0_1 : l0_1.length ≤ c0_1) (h : spec_gaTaking.f k a0_0 l0_1 = some r) :
 Calls Try.prog 116 #[.agg #[.int .i64 a0_0, .slice A0_1 l0_1.length c0_1]] w fun e w' => e = .returned (.bool r) ∧ Below w.heap.size w w' := by
 have hu26 := Try.underlying26
 have HR0_1 := Aside0.mk hr0_1
 have HC0_1 := Aside0.mk hc0_1
 clear hr0_1 hc0_1
 have HB := Aside0.mk (Below.refl w.heap.size w)
 have H : ((spec_laGood.f k a0_0 l0_1).bind fun t1210 => (if t1210 = true then (if (l0_1.length : Int) ≤ 12 then ((spec_gaHome.f k a0_0 l0_1).bind fun t1211 => (some (!t1211))) else (some false)) else (some false))) = some r := h
 clear h
 replace H := Option.bind_eq_some_iff.mp H
 obtain ⟨t1210, A20, H⟩ := H
 (try dsimp only at H)
 have A2 := Aside0.mk A20
 clear A20
 by_cases c3 : t1210 = true
 ·subst c3
  rw [if_pos rfl] at H
  by_cases c4 : (l0_1.length : Int) ≤ 12
  ·rw [if_pos c4] at H
   have c4b0 : decide ((l0_1.length : Int) ≤ 12) = true := decide_eq_true c4
   have c4b1 : decide (l0_1.length ≤ 12) = true := decide_eq_true (by omega)
   clear c4
   replace H := Option.bind_eq_some_iff.mp H
   obtain ⟨t1211, A50, H⟩ := H
   (try dsimp only at H)
   have A5 := Aside0.mk A50
   clear A50
   obtain rfl := Option.some.inj H
   go_enter Try.func116, Try.ntmps116
   go_wp2_with (first | ((with_reducible refine gate_dst (N := 1) rfl ?_); (try (refine gate_guard (by rfl) ?_; dsimp only)); refine box_event ?hg (N := 1) ?hd (cs := #[.int .i64 a0_0, .slice A0_1 l0_1.length c0_1]) (t := 26) ?hr ?_; (case hd => rfl); (case hg => rfl); (case hr => first | (go_simp; done) | (go_simp; rfl)); intro gb1209 hg w6 hbox hb; have BK1209 := Aside0.mk (hbox); have GW1209 := Aside0.mk ((by rw [hg]; exact (below_size (Bl_ HB)) : w.heap.size ≤ gb1209)); have GE1209 := Aside0.mk ((by rw [hg]; exact (below_size (Bl_ HB)) : w.heap.size ≤ gb1209)); replace HB := Aside0.mk (below_step (Bl_ HB) hb); clear hb hbox hg; have hcz7_0 : w6.cell? ⟨gb1209, 0, none⟩ = some (.int .i64 a0_0) := (blk_cell BK1209.out 0).trans rfl; have hcz7_1 : w6.cell? ⟨gb1209, 1, none⟩ = some (.slice A0_1 l0_1.length c0_1) := (blk_cell BK1209.out 1).trans rfl; have hfz7_0 := blk_frozen BK1209.out 0; have hfz7_1 := blk_frozen BK1209.out 1) | ((with_reducible refine gate_callee (f := 82) rfl ?_); refine gl_ (some 4) rfl rfl Try.func82 (by kernel_rfl) rfl #[.agg #[.int .i64 a0_0, .slice A0_1 l0_1.length c0_1]] rfl ?_; (with_reducible refine (spec_laGood.calls k a0_0 _ _ l0_1 true _ ?side1 ?side2 A2.out).mono ?_); (case side1 => exact Cl_ (Kd.C_below HR0_1.out HB.out)); (case side2 => exact HC0_1.out); rintro e w8 ⟨rfl, hb⟩; refine ⟨_, rfl, ?_⟩; replace BK1209 := blkB_ BK1209 hb; replace HB := Aside0.mk (below_step (Bl_ HB) hb); (try clear hb); (try clear hb2); (try clear hk); (try clear hi); have hcz9_0 : w8.cell? ⟨gb1209, 0, none⟩ = some (.int .i64 a0_0) := (blk_cell BK1209.out 0).trans rfl; have hcz9_1 : w8.cell? ⟨gb1209, 1, none⟩ = some (.slice A0_1 l0_1.length c0_1) := (blk_cell BK1209.out 1).trans rfl; have hfz9_0 := blk_frozen BK1209.out 0; have hfz9_1 := blk_frozen BK1209.out 1) | (go_at_call 121; (with_reducible refine (spec_gaHome.calls k a0_0 _ _ l0_1 t1211 _ ?side1 ?side2 A5.out).mono ?_); (case side1 => exact Cl_ (Kd.C_below HR0_1.out HB.out)); (case side2 => exact HC0_1.out); rintro e w10 ⟨rfl, hb⟩; replace BK1209 := blkB_ BK1209 hb; replace HB := Aside0.mk (below_step (Bl_ HB) hb); (try clear hb); (try clear hb2); (try clear hk); (try clear hi)))
   go_ret
   exact ⟨by first | rfl | (simp [errW_none, errW_some] <;> rfl) | (simp [*, errW_none, errW_some] <;> rfl), Bl_ HB⟩
  rw [if_neg c4] at H
  have c4b0 : decide ((l0_1.length : Int) ≤ 12) = false := decide_eq_false c4
  have c4b1 : decide (l0_1.length ≤ 12) = false := decide_eq_false (by omega)
  clear c4
  obtain rfl := Option.some.inj H
  go_enter Try.func116, Try.ntmps116
  go_wp2_with (first | ((with_reducible refine gate_dst (N := 1) rfl ?_); (try (refine gate_guard (by rfl) ?_; dsimp only)); refine box_event ?hg (N := 1) ?hd (cs := #[.int .i64 a0_0, .slice A0_1 l0_1.length c0_1]) (t := 26) ?hr ?_; (case hd => rfl); (case hg => rfl); (case hr => first | (go_simp; done) | (go_simp; rfl)); intro gb1209 hg w11 hbox hb; have BK1209 := Aside0.mk (hbox); have GW1209 := Aside0.mk ((by rw [hg]; exact (below_size (Bl_ HB)) : w.heap.size ≤ gb1209)); have GE1209 := Aside0.mk ((by rw [hg]; exact (below_size (Bl_ HB)) : w.heap.size ≤ gb1209)); replace HB := Aside0.mk (below_step (Bl_ HB) hb); clear hb hbox hg; have hcz12_0 : w11.cell? ⟨gb1209, 0, none⟩ = some (.int .i64 a0_0) := (blk_cell BK1209.out 0).trans rfl; have hcz12_1 : w11.cell? ⟨gb1209, 1, none⟩ = some (.slice A0_1 l0_1.length c0_1) := (blk_cell BK1209.out 1).trans rfl; have hfz12_0 := blk_frozen BK1209.out 0; have hfz12_1 := blk_frozen BK1209.out 1) | ((with_reducible refine gate_callee (f := 82) rfl ?_); refine gl_ (some 4) rfl rfl Try.func82 (by kernel_rfl) rfl #[.agg #[.int .i64 a0_0, .slice A0_1 l0_1.length c0_1]] rfl ?_; (with_reducible refine (spec_laGood.calls k a0_0 _ _ l0_1 true _ ?side1 ?side2 A2.out).mono ?_); (case side1 => exact Cl_ (Kd.C_below HR0_1.out HB.out)); (case side2 => exact HC0_1.out); rintro e w13 ⟨rfl, hb⟩; refine ⟨_, rfl, ?_⟩; replace BK1209 := blkB_ BK1209 hb; replace HB := Aside0.mk (below_step (Bl_ HB) hb); (try clear hb); (try clear hb2); (try clear hk); (try clear hi); have hcz14_0 : w13.cell? ⟨gb1209, 0, none⟩ = some (.int .i64 a0_0) := (blk_cell BK1209.out 0).trans rfl; have hcz14_1 : w13.cell? ⟨gb1209, 1, none⟩ = some (.slice A0_1 l0_1.length c0_1) := (blk_cell BK1209.out 1).trans rfl; have hfz14_0 := blk_frozen BK1209.out 0; have hfz14_1 := blk_frozen BK1209.out 1))
  go_ret
  exact ⟨by first | rfl | (simp [errW_none, errW_some] <;> rfl) | (simp [*, errW_none, errW_some] <;> rfl), Bl_ HB⟩
 replace c3 := Bool.eq_false_iff.mpr c3
 subst c3
 rw [if_neg (show ¬ (false = true) by decide)] at H
 obtain rfl := Option.some.inj H
 go_enter Try.func116, Try.ntmps116
 go_wp2_with (first | ((with_reducible refine gate_dst (N := 1) rfl ?_); (try (refine gate_guard (by rfl) ?_; dsimp only)); refine box_event ?hg (N := 1) ?hd (cs := #[.int .i64 a0_0, .slice A0_1 l0_1.length c0_1]) (t := 26) ?hr ?_; (case hd => rfl); (case hg => rfl); (case hr => first | (go_simp; done) | (go_simp; rfl)); intro gb1209 hg w15 hbox hb; have BK1209 := Aside0.mk (hbox); have GW1209 := Aside0.mk ((by rw [hg]; exact (below_size (Bl_ HB)) : w.heap.size ≤ gb1209)); have GE1209 := Aside0.mk ((by rw [hg]; exact (below_size (Bl_ HB)) : w.heap.size ≤ gb1209)); replace HB := Aside0.mk (below_step (Bl_ HB) hb); clear hb hbox hg; have hcz16_0 : w15.cell? ⟨gb1209, 0, none⟩ = some (.int .i64 a0_0) := (blk_cell BK1209.out 0).trans rfl; have hcz16_1 : w15.cell? ⟨gb1209, 1, none⟩ = some (.slice A0_1 l0_1.length c0_1) := (blk_cell BK1209.out 1).trans rfl; have hfz16_0 := blk_frozen BK1209.out 0; have hfz16_1 := blk_frozen BK1209.out 1) | ((with_reducible refine gate_callee (f := 82) rfl ?_); refine gl_ (some 4) rfl rfl Try.func82 (by kernel_rfl) rfl #[.agg #[.int .i64 a0_0, .slice A0_1 l0_1.length c0_1]] rfl ?_; (with_reducible refine (spec_laGood.calls k a0_0 _ _ l0_1 false _ ?side1 ?side2 A2.out).mono ?_); (case side1 => exact Cl_ (Kd.C_below HR0_1.out HB.out)); (case side2 => exact HC0_1.out); rintro e w17 ⟨rfl, hb⟩; refine ⟨_, rfl, ?_⟩; replace BK1209 := blkB_ BK1209 hb; replace HB := Aside0.mk (below_step (Bl_ HB) hb); (try clear hb); (try clear hb2); (try clear hk); (try clear hi)))
 go_ret
 exact ⟨by first | rfl | (simp [errW_none, errW_some] <;> rfl) | (simp [*, errW_none, errW_some] <;> rfl), Bl_ HB⟩

/-! ### spec_gaLeft: function 122 -/
def spec_gaLeft.l0 : Nat → Int → List Int → List Int → Int → Int → Option (List Int)
 | 0, _, _, _, _, _ => none
 | k + 1, x1, x5, x9, x10, x11 => if x11 < x10 then (if 0 ≤ x11 then (if x11 < (x9.length : Int) then (if (Int.tmod (shr .i64 x1 x11) 2) = 1 then (if x5.length < 17592186044416 then (spec_gaLeft.l0 k x1 (x5 ++ [rd x9 x11]) x9 x10 (wrap64 (x11 + 1))) else (none)) else (spec_gaLeft.l0 k x1 x5 x9 x10 (wrap64 (x11 + 1)))) else (none)) else (none)) else (some x5)
def spec_gaLeft.f (k : Nat) (a0_0 : Int) (l0_1 : List Int) (a1 : Int) : Option (List Int) := spec_gaLeft.l0 k a1 ([] : List Int) l0_1 (l0_1.length : Int) 0
theorem spec_gaLeft.mono_l : ∀ k, (∀ y0 y1 y2 y3 y4, LeO (spec_gaLeft.l0 k y0 y1 y2 y3 y4) (spec_gaLeft.l0 (k + 1) y0 y1 y2 y3 y4))
 | 0 => fun _ _ _ _ _ r h => by simp [spec_gaLeft.l0] at h
 | k + 1 => by
  have ih0 := spec_gaLeft.mono_l k
  ·intro y0 y1 y2 y3 y4
   unfold spec_gaLeft.l0
   repeat' first
   | (with_reducible exact ih0 _ _ _ _ _)
   | (with_reducible exact LeO.refl _)
   | (with_reducible exact LeO.none _)
   | (with_reducible refine LeO.ite ?_ ?_)
   | (with_reducible refine LeO.bind ?_ (fun _ => ?_))
   | exact ih0 _ _ _ _ _
   | exact LeO.none _
   | refine LeO.ite ?_ ?_
   | refine LeO.bind ?_ (fun _ => ?_)
theorem spec_gaLeft.mono : ∀ a0 a1 a2 k, LeO (spec_gaLeft.f k a0 a1 a2) (spec_gaLeft.f (k + 1) a0 a1 a2) := by
 intro a0 a1 a2 k
 have ih0 := spec_gaLeft.mono_l k
 unfold spec_gaLeft.f
 repeat' first
  | (with_reducible exact ih0 _ _ _ _ _)
  | (with_reducible exact LeO.refl _)
  | (with_reducible exact LeO.none _)
  | (with_reducible refine LeO.ite ?_ ?_)
  | (with_reducible refine LeO.bind ?_ (fun _ => ?_))
  | exact ih0 _ _ _ _ _
  | exact LeO.none _
  | refine LeO.ite ?_ ?_
  | refine LeO.bind ?_ (fun _ => ?_)
set_option maxHeartbeats 8000000 in
set_option maxRecDepth 100000 in
theorem spec_gaLeft.calls (k : Nat) (a0_0 : Int) (A0_1 : Option Addr) (c0_1 : Nat) (l0_1 : List Int) (a1 : Int) (r : List Int) (w : World) (hr0_1 : Kd.C (Kd.int .i64) w A0_1 l0_1.length l0_1) (hc0_1 : l0_1.length ≤ c0_1) (h : spec_gaLeft.f k a0_0 l0_1 a1 = some r) :
 Calls Try.prog 122 #[.agg #[.int .i64 a0_0, .slice A0_1 l0_1.length c0_1], .int .i64 a1] w fun e w' => ∃ v0_ : Value, e = .returned (v0_) ∧ Kd.R (Kd.int .i64) 3 w' w.heap.size (fun _ => True) v0_ r ∧ Below w.heap.size w w' := by
 have hu26 := Try.underlying26
 have HR0_1 := Aside0.mk hr0_1
 have HC0_1 := Aside0.mk hc0_1
 clear hr0_1 hc0_1
 have HB := Aside0.mk (Below.refl w.heap.size w)
 have H : (spec_gaLeft.l0 k a1 ([] : List Int) l0_1 (l0_1.length : Int) 0) = some r := h
 clear h
 have H' := Aside0.mk H
 clear H
 go_enter Try.func122, Try.ntmps122
 go_wp2_with (first | ((with_reducible refine gate_dst (N := 2) rfl ?_); refine box_event ?hg (N := 2) ?hd (cs := #[.int .i64 a0_0, .slice A0_1 l0_1.length c0_1]) (t := 26) ?hr ?_; (case hd => rfl); (case hg => rfl); (case hr => first | (go_simp; done) | (go_simp; rfl)); intro gb1212 hg w3 hbox hb; have BK1212 := Aside0.mk (hbox); have GW1212 := Aside0.mk ((by rw [hg]; exact (below_size (Bl_ HB)) : w.heap.size ≤ gb1212)); have GE1212 := Aside0.mk ((by rw [hg]; exact (below_size (Bl_ HB)) : w.heap.size ≤ gb1212)); replace HB := Aside0.mk (below_step (Bl_ HB) hb); clear hb hbox hg; have hcz4_0 : w3.cell? ⟨gb1212, 0, none⟩ = some (.int .i64 a0_0) := (blk_cell BK1212.out 0).trans rfl; have hcz4_1 : w3.cell? ⟨gb1212, 1, none⟩ = some (.slice A0_1 l0_1.length c0_1) := (blk_cell BK1212.out 1).trans rfl; have hfz4_0 := blk_frozen BK1212.out 0; have hfz4_1 := blk_frozen BK1212.out 1))
 go_loopg [5, 11] k (fun kq v5 v11 w' => ∃ (x5_1 : List Int) (x11_1 : Int), v11 = .int .i64 x11_1 ∧ Aside0 (spec_gaLeft.l0 kq a1 x5_1 l0_1 (l0_1.length : Int) x11_1 = some r) ∧ Aside0 (kq ≤ k) ∧ Aside0 (Kd.R (Kd.int .i64) 3 w' w.heap.size (fun _ => True) v5 x5_1) ∧ Aside0 (w'.heap[gb1212]? = some (.cells #[.int .i64 a0_0, (.slice A0_1 l0_1.length c0_1)] 26 (0, 0))) ∧ Aside0 (Below w.heap.size w w'))
 case atStart => exact ⟨(([] : List Int)), (0), (by first | rfl | (simp; done) | (simp [*]; done)), H', ⟨Nat.le_refl _⟩, ⟨by first | exact Kd.R_nil _ _ _ _ _ | exact Kd.N_nil _ _ _ _ _ | exact Kd.V_nil _ _ _ _ _ | exact Kd.Q_nil _ _ _ _ _ | exact Kd.S_nil _ _ _ _ _⟩, ⟨bl_ BK1212⟩, ⟨Bl_ HB⟩⟩
 case round =>
  clear H'
  try clear c1
  try clear p2
  try clear hcz4_0
  try clear hcz4_1
  try clear hfz4_0
  try clear hfz4_1
  obtain ⟨x5_1, x11_1, rfl, HA, HK1, HO_5, BK1212, HB⟩ := hrel
  cases gk with
  | zero => exact absurd HA.out (by simp [spec_gaLeft.l0])
  | succ k1 =>
   have H := HA.out
   clear HA
   simp only [spec_gaLeft.l0] at H
   by_cases c5 : x11_1 < (l0_1.length : Int)
   ·rw [if_pos c5] at H
    have c5b0 : decide (x11_1 < (l0_1.length : Int)) = true := decide_eq_true c5
    clear c5
    by_cases c6 : 0 ≤ x11_1
    rotate_left
    ·rw [if_neg c6] at H
     exact absurd H (by simp)
    rw [if_pos c6] at H
    have c6b0 : decide (0 ≤ x11_1) = true := decide_eq_true c6
    clear c6
    by_cases c7 : x11_1 < (l0_1.length : Int)
    rotate_left
    ·rw [if_neg c7] at H
     exact absurd H (by simp)
    rw [if_pos c7] at H
    have c7b0 : decide (x11_1 < (l0_1.length : Int)) = true := decide_eq_true c7
    clear c7
    have c8b0 := eq_true (of_decide_eq_true (by first | (with_reducible assumption) | assumption) : 0 ≤ x11_1)
    obtain ⟨ji9, hji9⟩ : ∃ j_ : Int, (shr .i64 a1 x11_1) = j_ := ⟨_, rfl⟩
    replace H : (if (Int.tmod (ji9) 2) = 1 then (if x5_1.length < 17592186044416 then (spec_gaLeft.l0 k1 a1 (x5_1 ++ [rd l0_1 x11_1]) l0_1 (l0_1.length : Int) (wrap64 (x11_1 + 1))) else (none)) else (spec_gaLeft.l0 k1 a1 x5_1 l0_1 (l0_1.length : Int) (wrap64 (x11_1 + 1)))) = some r := by first | (rw [hji9] at H; exact H) | (simp only [hji9] at H ⊢; exact H)
    have hji9_ : (a1 / 2 ^ min x11_1.toNat 64) = ji9 := hji9
    have hji9z : x11_1 ≤ 64 → (a1 / 2 ^ x11_1.toNat) = ji9 := shr_small hji9
    by_cases c10 : (Int.tmod (ji9) 2) = 1
    ·rw [if_pos c10] at H
     have c10b0 : ((Int.tmod (ji9) 2) == 1) = true := beq_iff_eq.mpr c10
     have c10b1 : ((Int.tmod (ji9) 2) != 1) = false := bne_eq_false_iff_eq.mpr c10
     clear c10
     by_cases c11 : x5_1.length < 17592186044416
     rotate_left
     ·rw [if_neg c11] at H
      exact absurd H (by simp)
     rw [if_pos c11] at H
     have LMc11 := Aside0.mk c11
     clear c11
     obtain ⟨y1214, hy1214⟩ : ∃ y_ : List Int, y_ = (x5_1 ++ [rd l0_1 x11_1]) := ⟨_, rfl⟩
     replace H : (spec_gaLeft.l0 k1 a1 y1214 l0_1 (l0_1.length : Int) (wrap64 (x11_1 + 1))) = some r := by first | (rw [hy1214]; with_reducible exact H) | (have H2_ := (Option.bind_some _ _).symm.trans H; rw [hy1214]; with_reducible exact H2_) | (have H2_ := (Option.bind_some _ _).symm.trans H; with_reducible exact H2_) | with_reducible exact H | (rw [hy1214]; exact H) | exact H
     have Ny1214 := Aside0.mk hy1214
     clear hy1214
     have H' := Aside0.mk H
     clear H
     have p1213 : 0 ≤ (x11_1 : Int) := of_decide_eq_true (by first | (with_reducible assumption) | assumption)
     have q1213 : x11_1 < (l0_1.length : Int) := of_decide_eq_true (by first | (with_reducible assumption) | assumption)
     obtain ⟨ad1213, e1213, hx1213_0⟩ := Kd.at_int HR0_1.out x11_1 p1213 q1213
     cases e1213
     replace hx1213_0 := (HB.out.cell (World.block_lt_of_cell? w _ hx1213_0)).trans hx1213_0
     replace p1213 := eq_true p1213
     replace q1213 := eq_true q1213
     go_wp2_with (first | ((with_reducible refine gate_builtin (b := .append) (xs := #[.tmp 21, .tmp 23]) rfl ?_); at_builtin; refine Kd.R_append (Kd.int .i64) (w0 := w) w.heap.size rfl (.tmp 21) (.tmp 23) 24 3 (.int .i64 0) 8 rfl Try.underlying24 info3 rfl (by decide) (by omega) u5 x5_1 (rd l0_1 x11_1) [.int .i64 (rd l0_1 x11_1)] (fun _ => True) (fun _ => False) rfl rfl ?aP (fun _ hk => hk.elim) ?aF ?aO ?aB ?aS ?aL ?_; (case aP => exact rfl); (case aB => exact (Bl_ HB)); (case aF => exact (fun _ _ => trivial)); (case aO => exact (Rl_ HO_5.out)); (case aS => exact (below_size (Bl_ HB))); (case aL => have := LMc11.out; omega); intro v1215 w12 ho hb hg hat; rw [← Ny1214.out] at ho; replace BK1212 := Aside0.mk (blk_grown (g := gb1212) (o := .cells #[.int .i64 a0_0, .slice (some ad1213) l0_1.length c0_1] 26 (0, 0)) (bl_ BK1212) hg (Kd.R_ne HO_5.out BK1212.out (by decide))); replace HB := Aside0.mk (hb); have HO1216 := Aside0.mk (ho); clear HO_5; clear ho hb hg hat))
     go_roundg k1
     case measure => have := HK1.out; omega
     case rel => exact ⟨(y1214), (wrap64 (x11_1 + 1)), (by first | rfl | (simp; done) | (simp [*]; done)), H', ⟨by have := HK1.out; omega⟩, ⟨Rl_ HO1216.out⟩, ⟨bl_ BK1212⟩, ⟨Bl_ HB⟩⟩
    rw [if_neg c10] at H
    have c10b0 : ((Int.tmod (ji9) 2) == 1) = false := beq_eq_false_iff_ne.mpr c10
    have c10b1 : ((Int.tmod (ji9) 2) != 1) = true := bne_iff_ne.mpr c10
    have H' := Aside0.mk H
    clear H
    have p1213 : 0 ≤ (x11_1 : Int) := of_decide_eq_true (by first | (with_reducible assumption) | assumption)
    have q1213 : x11_1 < (l0_1.length : Int) := of_decide_eq_true (by first | (with_reducible assumption) | assumption)
    obtain ⟨ad1213, e1213, hx1213_0⟩ := Kd.at_int HR0_1.out x11_1 p1213 q1213
    cases e1213
    replace hx1213_0 := (HB.out.cell (World.block_lt_of_cell? w _ hx1213_0)).trans hx1213_0
    replace p1213 := eq_true p1213
    replace q1213 := eq_true q1213
    go_wp2
    go_roundg k1
    case measure => have := HK1.out; omega
    case rel => exact ⟨(x5_1), (wrap64 (x11_1 + 1)), (by first | rfl | (simp; done) | (simp [*]; done)), H', ⟨by have := HK1.out; omega⟩, ⟨Rl_ HO_5.out⟩, ⟨bl_ BK1212⟩, ⟨Bl_ HB⟩⟩
   rw [if_neg c5] at H
   have c5b0 : decide (x11_1 < (l0_1.length : Int)) = false := decide_eq_false c5
   clear c5
   obtain rfl := Option.some.inj H
   go_wp2
   go_ret
   exact ⟨_, by first | rfl | (simp [errW_none, errW_some] <;> rfl) | (simp [*, errW_none, errW_some] <;> rfl), by (with_reducible repeat (first | apply Kd.R_alloc | apply Kd.R_drewN | apply Kd.R_drew)); exact HO_5.out, Bl_ HB⟩

/-! ### spec_l1Most: function 124 -/
def spec_l1Most.f (a0 : Int) (a1 : Int) : Option (Int) := if a0 > a1 then (some a0) else (some a1)
set_option maxHeartbeats 8000000 in
set_option maxRecDepth 100000 in
theorem spec_l1Most.calls (a0 : Int) (a1 : Int) (r : Int) (w : World) (h : spec_l1Most.f a0 a1 = some r) :
 Calls Try.prog 124 #[.int .i64 a0, .int .i64 a1] w fun e w' => e = .returned (.int .i64 r) ∧ Drawn0 w w' := by
 have H : (if a0 > a1 then (some a0) else (some a1)) = some r := h
 clear h
 by_cases c3 : a0 > a1
 ·rw [if_pos c3] at H
  have c3b0 : decide (a1 < a0) = true := decide_eq_true c3
  clear c3
  obtain rfl := Option.some.inj H
  go_enter Try.func124, Try.ntmps124
  go_wp2
  go_ret
  exact ⟨by first | rfl | (simp; done) | (simp [*]; done), by repeat (first | exact Drawn0.refl _ | apply Drawn0.step)⟩
 rw [if_neg c3] at H
 have c3b0 : decide (a1 < a0) = false := decide_eq_false c3
 clear c3
 obtain rfl := Option.some.inj H
 go_enter Try.func124, Try.ntmps124
 go_wp2
 go_ret
 exact ⟨by first | rfl | (simp; done) | (simp [*]; done), by repeat (first | exact Drawn0.refl _ | apply Drawn0.step)⟩

end Go.Proofs.Ytejbgonbnijgkaa.B
