/- The walks of functions of the given program and of its reference: each call of the machine returns what the plain Lean function of the same name says. Conditions: those in each statement. (Written by this session's program over the kit's print.) -/
import Derived.Test.YtejbgonbnijgkaaB0
import Derived.Test.YtejbgonbnijgkaaB1
import Derived.Test.YtejbgonbnijgkaaB2
import Derived.Test.YtejbgonbnijgkaaB3
namespace Go.Proofs.Ytejbgonbnijgkaa.B
open Go.RowKit Go.Proofs.YtejbgonbnijgkaaW.PrintWords Go.Proofs.YtejbgonbnijgkaaW.PrintLast Go.Proofs.YtejbgonbnijgkaaW.PrintMore
attribute [local go_sem] max2_int min2_int max_two min_two max_three min_three max_four min_four   -- for this text's walks alone
set_option linter.unusedVariables false
set_option linter.unusedSimpArgs false

/-! ### spec_DrawPlayTakes: function 64 -/
mutual
def spec_DrawPlayTakes.j0 : Nat → List Int → Bool → List Int → Int → Int → Int → List Int → Option (Int × List Int × List Int)
 | 0, _, _, _, _, _, _, _ => none
 | k + 1, x6, x24, x1238000, x1238001, x1238002, x1245000, x1245001 => if x24 = true then ((spec_l1Cur_pick.f x1238000 x1238001 x1238002 (wrap64 ((x6.length : Int) + 1))).bind fun bt1252 => (if 0 ≤ bt1252.1 then (if bt1252.1 ≤ (x6.length : Int) then (some (x1245000, x1245001, (x6.take (bt1252.1 : Int).toNat))) else (none)) else (none))) else ((spec_l1Cur_pick.f x1238000 x1238001 x1238002 5).bind fun bt1258 => (spec_DrawPlayTakes.l0 k ([] : List Int) bt1258.1 x1238000 bt1258.2.1 bt1258.2.2 x1245000 x1245001))
def spec_DrawPlayTakes.l0 : Nat → List Int → Int → List Int → Int → Int → Int → List Int → Option (Int × List Int × List Int)
 | 0, _, _, _, _, _, _, _ => none
 | k + 1, x8, x9, x1238000, x1238001, x1238002, x1245000, x1245001 => if x9 > 0 then ((spec_l1Cur_pick.f x1238000 x1238001 x1238002 9).bind fun bt1261 => ((spec_l1Cur_pick.f x1238000 bt1261.2.1 bt1261.2.2 2).bind fun bt1264 => (if x8.length < 17592186044416 then (spec_DrawPlayTakes.l0 k (x8 ++ [wrap64 (bt1261.1 - bt1264.1)]) (wrap64 (x9 - 1)) x1238000 bt1264.2.1 bt1264.2.2 x1245000 x1245001) else (none)))) else (some (x1245000, x1245001, x8))
end
def spec_DrawPlayTakes.f (k : Nat) (l0 : List Int) : Option (Int × List Int × List Int) := (spec_l1Cur_taking.f k l0 0 0).bind fun bt1238 => ((spec_TakeLine.f k bt1238.1 bt1238.2.1).bind fun bt1245 => (if bt1245.2 = true then ((spec_l1Cur_one.f l0 bt1238.2.2.1 bt1238.2.2.2 2).bind fun bt1249 => (spec_DrawPlayTakes.j0 k bt1245.1 bt1249.1 l0 bt1249.2.1 bt1249.2.2 bt1238.1 bt1238.2.1)) else (spec_DrawPlayTakes.j0 k bt1245.1 false l0 bt1238.2.2.1 bt1238.2.2.2 bt1238.1 bt1238.2.1)))
theorem spec_DrawPlayTakes.mono_l : ∀ k, (∀ y0 y1 y2 y3 y4 y5 y6, LeO (spec_DrawPlayTakes.j0 k y0 y1 y2 y3 y4 y5 y6) (spec_DrawPlayTakes.j0 (k + 1) y0 y1 y2 y3 y4 y5 y6)) ∧ (∀ y0 y1 y2 y3 y4 y5 y6, LeO (spec_DrawPlayTakes.l0 k y0 y1 y2 y3 y4 y5 y6) (spec_DrawPlayTakes.l0 (k + 1) y0 y1 y2 y3 y4 y5 y6))
 | 0 => ⟨fun _ _ _ _ _ _ _ r h => by simp [spec_DrawPlayTakes.j0] at h, fun _ _ _ _ _ _ _ r h => by simp [spec_DrawPlayTakes.l0] at h⟩
 | k + 1 => by
  obtain ⟨ih0, ih1⟩ := spec_DrawPlayTakes.mono_l k
  refine ⟨?_, ?_⟩
  ·intro y0 y1 y2 y3 y4 y5 y6
   unfold spec_DrawPlayTakes.j0
   repeat' first
   | (with_reducible exact ih0 _ _ _ _ _ _ _)
   | (with_reducible exact ih1 _ _ _ _ _ _ _)
   | (with_reducible exact spec_TakeLine.mono _ _ _)
   | (with_reducible exact spec_l1Cur_taking.mono _ _ _ _)
   | (with_reducible exact LeO.refl _)
   | (with_reducible exact LeO.none _)
   | (with_reducible refine LeO.ite ?_ ?_)
   | (with_reducible refine LeO.bind ?_ (fun _ => ?_))
   | exact ih0 _ _ _ _ _ _ _
   | exact ih1 _ _ _ _ _ _ _
   | exact spec_TakeLine.mono _ _ _
   | exact spec_l1Cur_taking.mono _ _ _ _
   | exact LeO.none _
   | refine LeO.ite ?_ ?_
   | refine LeO.bind ?_ (fun _ => ?_)
  ·intro y0 y1 y2 y3 y4 y5 y6
   unfold spec_DrawPlayTakes.l0
   repeat' first
   | (with_reducible exact ih0 _ _ _ _ _ _ _)
   | (with_reducible exact ih1 _ _ _ _ _ _ _)
   | (with_reducible exact spec_TakeLine.mono _ _ _)
   | (with_reducible exact spec_l1Cur_taking.mono _ _ _ _)
   | (with_reducible exact LeO.refl _)
   | (with_reducible exact LeO.none _)
   | (with_reducible refine LeO.ite ?_ ?_)
   | (with_reducible refine LeO.bind ?_ (fun _ => ?_))
   | exact ih0 _ _ _ _ _ _ _
   | exact ih1 _ _ _ _ _ _ _
   | exact spec_TakeLine.mono _ _ _
   | exact spec_l1Cur_taking.mono _ _ _ _
   | exact LeO.none _
   | refine LeO.ite ?_ ?_
   | refine LeO.bind ?_ (fun _ => ?_)
theorem spec_DrawPlayTakes.mono : ∀ a0 k, LeO (spec_DrawPlayTakes.f k a0) (spec_DrawPlayTakes.f (k + 1) a0) := by
 intro a0 k
 obtain ⟨ih0, ih1⟩ := spec_DrawPlayTakes.mono_l k
 unfold spec_DrawPlayTakes.f
 repeat' first
  | (with_reducible exact ih0 _ _ _ _ _ _ _)
  | (with_reducible exact ih1 _ _ _ _ _ _ _)
  | (with_reducible exact spec_TakeLine.mono _ _ _)
  | (with_reducible exact spec_l1Cur_taking.mono _ _ _ _)
  | (with_reducible exact LeO.refl _)
  | (with_reducible exact LeO.none _)
  | (with_reducible refine LeO.ite ?_ ?_)
  | (with_reducible refine LeO.bind ?_ (fun _ => ?_))
  | exact ih0 _ _ _ _ _ _ _
  | exact ih1 _ _ _ _ _ _ _
  | exact spec_TakeLine.mono _ _ _
  | exact spec_l1Cur_taking.mono _ _ _ _
  | exact LeO.none _
  | refine LeO.ite ?_ ?_
  | refine LeO.bind ?_ (fun _ => ?_)
def spec_DrawPlayTakes.T5 : Bool × List (List Nat × List Nat) := (true, [([], []), ([], []), ([], []), ([], []), ([3], [3]), ([4], [4]), ([2, 5], [2, 5]), ([1, 6], [1, 6]), ([0, 6, 0], [0]), ([7, 8, 0, 1, 2, 3, 4, 5, 6, 7, 8], [7])])
def spec_DrawPlayTakes.B5 : List Nat := [0, 0, 0, 0, 8, 24, 60, 126, 125, 511]
theorem spec_DrawPlayTakes.tab5 : rtab .any (opsOf Try.f64 5) = spec_DrawPlayTakes.T5 := by kernel_rfl
theorem spec_DrawPlayTakes.bits5 : waitsOk spec_DrawPlayTakes.T5.2 spec_DrawPlayTakes.B5 = true := by kernel_rfl
set_option maxHeartbeats 8000000 in
set_option maxRecDepth 100000 in
theorem spec_DrawPlayTakes.calls (k : Nat) (A0 : Option Addr) (c0 : Nat) (l0 : List Int) (r1 : Int) (r2 : List Int) (r3 : List Int) (w : World) (hr0 : Kd.C (Kd.int .u8) w A0 l0.length l0) (hc0 : l0.length ≤ c0) (h : spec_DrawPlayTakes.f k l0 = some (r1, r2, r3)) :
 Calls Try.prog 64 #[.slice A0 l0.length c0] w fun e w' => ∃ v1_ v2_ : Value, e = .returned (.tuple #[.agg #[.int .i64 r1, v1_], v2_]) ∧ Kd.R (Kd.int .i64) 3 w' w.heap.size (fun k_ => some k_ ≠ (v2_ : Value).ownBlock) v1_ r2 ∧ Kd.R (Kd.int .i64) 3 w' w.heap.size (fun k_ => some k_ ≠ (v1_ : Value).ownBlock) v2_ r3 ∧ Below w.heap.size w w' := by
 have hu26 := Try.underlying26
 have hu71 := Try.underlying71
 have HR0 := Aside0.mk hr0
 have HC0 := Aside0.mk hc0
 clear hr0 hc0
 have HB := Aside0.mk (Below.refl w.heap.size w)
 have H : ((spec_l1Cur_taking.f k l0 0 0).bind fun bt1238 => ((spec_TakeLine.f k bt1238.1 bt1238.2.1).bind fun bt1245 => (if bt1245.2 = true then ((spec_l1Cur_one.f l0 bt1238.2.2.1 bt1238.2.2.2 2).bind fun bt1249 => (spec_DrawPlayTakes.j0 k bt1245.1 bt1249.1 l0 bt1249.2.1 bt1249.2.2 bt1238.1 bt1238.2.1)) else (spec_DrawPlayTakes.j0 k bt1245.1 false l0 bt1238.2.2.1 bt1238.2.2.2 bt1238.1 bt1238.2.1)))) = some (r1, r2, r3) := h
 clear h
 replace H := Option.bind_eq_some_iff.mp H
 obtain ⟨⟨t1238, t1239, t1242, t1243⟩, A20, H⟩ := H
 (try dsimp only at H)
 have A2 := Aside0.mk A20
 clear A20
 replace H := Option.bind_eq_some_iff.mp H
 obtain ⟨⟨t1245, t1248⟩, A30, H⟩ := H
 (try dsimp only at H)
 have A3 := Aside0.mk A30
 clear A30
 have HC4 := Aside0.mk H
 clear H
 go_enter Try.func64, Try.ntmps64
 go_upto_region 4 with (first | ((with_reducible refine gate_dst (N := 2) rfl ?_); refine box_event ?hg (N := 2) ?hd (cs := #[.int .i64 0, .slice none 0 0]) (t := 26) ?hr ?_; (case hd => rfl); (case hg => rfl); (case hr => first | (go_simp; done) | (go_simp; rfl)); intro gb1236 hg w5 hbox hb; have BK1236 := Aside0.mk (hbox); have GW1236 := Aside0.mk ((by rw [hg]; exact (below_size (Bl_ HB)) : w.heap.size ≤ gb1236)); have GE1236 := Aside0.mk ((by rw [hg]; exact (below_size (Bl_ HB)) : w.heap.size ≤ gb1236)); replace HB := Aside0.mk (below_step (Bl_ HB) hb); clear hb hbox hg) | ((with_reducible refine gate_dst (N := 12) rfl ?_); refine box_event ?hg (N := 12) ?hd (cs := #[.slice A0 l0.length c0, .int .i64 0, .int .u64 0]) (t := 71) ?hr ?_; (case hd => rfl); (case hg => rfl); (case hr => first | (go_simp; done) | (go_simp; rfl)); intro gb1237 hg w6 hbox hb; have HI1237 := Aside0.mk ((⟨_, _, hbox, (by rw [hg]; exact (below_size (Bl_ HB)) : w.heap.size ≤ gb1237), HR0.out⟩ : IsS71 w w6 gb1237 l0 0 0)); have GW1237 := Aside0.mk ((by rw [hg]; exact (below_size (Bl_ HB)) : w.heap.size ≤ gb1237)); have GE1237 := Aside0.mk ((by rw [hg]; exact (below_size (Bl_ HB)) : w.heap.size ≤ gb1237)); replace HB := Aside0.mk (below_step (Bl_ HB) hb); have NB1236_1237 := nbl_ BK1236 hg; have NB1237_1236 := nbg_ BK1236 hg; replace BK1236 := blkB_ BK1236 hb; clear hb hbox hg) | ((with_reducible refine gate_callee (f := 127) rfl ?_); refine gl_ (some 14) rfl rfl Try.func127 (by kernel_rfl) rfl #[.pointer (some ⟨gb1237, 0, none⟩)] rfl ?_; (with_reducible refine (spec_l1Cur_taking.calls k gb1237 l0 0 0 t1238 t1239 t1242 t1243 w _ ?side1 ?side2 A2.out).mono ?_); (case side1 => repeat (first | (with_reducible first | exact HI1237.out | apply IsS71.alloc | apply IsS71.drewN | apply IsS71.drew | apply IsS71.set_1 | apply IsS71.set_2 | refine IsS71.far ?_ NB1237_1236.out _) | exact HI1237.out)); (case side2 => repeat (first | (with_reducible first | exact HB.out | apply below_alloc | apply pw_below_drewN | apply below_drew1 | refine below_set ?_ (IsS71.ge HI1237.out) | refine below_set ?_ GE1236.out) | exact HB.out)); rintro e w7 ⟨v1240, rfl, ho0, hi, hb, hk⟩; refine ⟨_, rfl, ?_⟩; replace BK1236 := Aside0.mk (KeepBut.blk hk (g' := gb1236) (o := .cells #[.int .i64 0, .slice none 0 0] 26 (0, 0)) (bl_ BK1236) NB1236_1237.out (by simp)); have HO1241 := Aside0.mk (Kd.R_lower ho0 (below_size (by repeat (first | (with_reducible first | exact HB.out | apply below_alloc | apply pw_below_drewN | apply below_drew1 | refine below_set ?_ (IsS71.ge HI1237.out) | refine below_set ?_ GE1236.out) | exact HB.out)))); replace HB := Aside0.mk (hb); replace HI1237 := Aside0.mk (hi); (try clear hb); (try clear hb2); (try clear hk); (try clear hi); (try clear ho0)) | ((with_reducible refine gate_dst (N := 5) rfl ?_); refine box_event ?hg (N := 5) ?hd (cs := #[.int .i64 0, .slice none 0 0]) (t := 26) ?hr ?_; (case hd => rfl); (case hg => rfl); (case hr => first | (go_simp; done) | (go_simp; rfl)); intro gb1244 hg w8 hbox hb; replace HO1241 := Aside0.mk (Kd.R_below (Rl_ HO1241.out) hb); have BK1244 := Aside0.mk (hbox); have GW1244 := Aside0.mk ((by rw [hg]; exact (below_size (by repeat (first | (with_reducible first | exact HB.out | apply below_alloc | apply pw_below_drewN | apply below_drew1 | refine below_set ?_ (IsS71.ge HI1237.out) | refine below_set ?_ GE1236.out) | exact HB.out))) : w.heap.size ≤ gb1244)); have GE1244 := Aside0.mk ((by rw [hg]; exact (below_size (by repeat (first | (with_reducible first | exact HB.out | apply below_alloc | apply pw_below_drewN | apply below_drew1 | refine below_set ?_ (IsS71.ge HI1237.out) | refine below_set ?_ GE1236.out) | exact HB.out))) : w.heap.size ≤ gb1244)); replace HB := Aside0.mk (below_step (by repeat (first | (with_reducible first | exact HB.out | apply below_alloc | apply pw_below_drewN | apply below_drew1 | refine below_set ?_ (IsS71.ge HI1237.out) | refine below_set ?_ GE1236.out) | exact HB.out)) hb); have NB1236_1244 := nbl_ BK1236 hg; have NB1244_1236 := nbg_ BK1236 hg; replace BK1236 := blkB_ BK1236 hb; have NB1237_1244 := Aside0.mk ((by rw [hg]; exact Nat.ne_of_lt (IsS71.lt (show IsS71 w _ gb1237 l0 t1242 t1243 from by repeat (first | (with_reducible first | exact HI1237.out | apply IsS71.alloc | apply IsS71.drewN | apply IsS71.drew | apply IsS71.set_1 | apply IsS71.set_2 | refine IsS71.far ?_ NB1237_1236.out _) | exact HI1237.out))) : gb1237 ≠ gb1244)); have NB1244_1237 := Aside0.mk ((by rw [hg]; exact Nat.ne_of_gt (IsS71.lt (show IsS71 w _ gb1237 l0 t1242 t1243 from by repeat (first | (with_reducible first | exact HI1237.out | apply IsS71.alloc | apply IsS71.drewN | apply IsS71.drew | apply IsS71.set_1 | apply IsS71.set_2 | refine IsS71.far ?_ NB1237_1236.out _) | exact HI1237.out))) : gb1244 ≠ gb1237)); replace HI1237 := Aside0.mk (IsS71.below (by repeat (first | (with_reducible first | exact HI1237.out | apply IsS71.alloc | apply IsS71.drewN | apply IsS71.drew | apply IsS71.set_1 | apply IsS71.set_2 | refine IsS71.far ?_ NB1237_1236.out _) | exact HI1237.out)) hb); clear hb hbox hg; have hnb9 := NB1244_1236.out; have hnc9 := NB1236_1244.out; have hnb10 := NB1244_1237.out; have hnc10 := NB1237_1244.out; have hcz11_0 : w8.cell? ⟨gb1244, 0, none⟩ = some (.int .i64 0) := (blk_cell BK1244.out 0).trans rfl; have hcz11_1 : w8.cell? ⟨gb1244, 1, none⟩ = some (.slice none 0 0) := (blk_cell BK1244.out 1).trans rfl; have hfz11_0 := blk_frozen BK1244.out 0; have hfz11_1 := blk_frozen BK1244.out 1; obtain ⟨Ao12, co12, eo12⟩ := Kd.R_slice HO1241.out; subst eo12) | ((with_reducible refine gate_callee (f := 50) rfl ?_); refine gl_ (some 17) rfl rfl Try.func50 (by kernel_rfl) rfl #[.agg #[.int .i64 t1238, .slice Ao12 t1239.length co12]] rfl ?_; (with_reducible refine (spec_TakeLine.calls k t1238 _ _ t1239 t1245 t1248 _ ?side1 ?side2 A3.out).mono ?_); (case side1 => refine (Kd.R_reads' (e := 3) (base := w.heap.size) (ok := fun k_ => True) (n := t1239.length) (c := co12) ?_).2.2; exact (Rl_ (Rf2_ HO1241.out BK1244.out (by decide) (.int .i64 t1238) (.slice Ao12 t1239.length co12)))); (case side2 => exact (Kd.R_reads' HO1241.out).2.1); rintro e w13 ⟨v1246, rfl, ho0, hb⟩; refine ⟨_, rfl, ?_⟩; have HO1247 := Aside0.mk (Kd.R_lower (Kd.R_new' ho0 (Kd.R_lt (Rl_ (Rf2_ HO1241.out BK1244.out (by decide) (.int .i64 t1238) (.slice Ao12 t1239.length co12))))) (below_size (by repeat (first | (with_reducible first | exact HB.out | apply below_alloc | apply pw_below_drewN | apply below_drew1 | refine below_set ?_ (IsS71.ge HI1237.out) | refine below_set ?_ GE1236.out | refine below_set ?_ GE1244.out) | exact HB.out)))); replace HO1241 := Aside0.mk (Kd.R_elder' (Rl_ (Rf2_ HO1241.out BK1244.out (by decide) (.int .i64 t1238) (.slice Ao12 t1239.length co12))) (Kd.R_base ho0) hb); replace BK1236 := blkF_ BK1236 NB1236_1244 hb; replace BK1244 := Aside0.mk (blk_below (g := gb1244) (o := .cells #[.int .i64 t1238, .slice Ao12 t1239.length co12] 26 (0, 0)) (by (with_reducible repeat (first | refine blk_drewN ?_ _ | refine blk_drew ?_ | refine blk_alloc ?_ _)); refine blk_put (cs := #[.int .i64 t1238, .slice none 0 0]) ?_ 1 _ rfl; (with_reducible repeat (first | refine blk_drewN ?_ _ | refine blk_drew ?_ | refine blk_alloc ?_ _)); refine blk_put (cs := #[.int .i64 0, .slice none 0 0]) ?_ 0 _ rfl; (with_reducible repeat (first | refine blk_drewN ?_ _ | refine blk_drew ?_ | refine blk_alloc ?_ _)); exact BK1244.out) hb); replace HB := Aside0.mk (below_step (by repeat (first | (with_reducible first | exact HB.out | apply below_alloc | apply pw_below_drewN | apply below_drew1 | refine below_set ?_ (IsS71.ge HI1237.out) | refine below_set ?_ GE1236.out | refine below_set ?_ GE1244.out) | exact HB.out)) hb); replace HI1237 := Aside0.mk (IsS71.below (show IsS71 w ((w8.setCell ⟨gb1244, 0, none⟩ (.int .i64 t1238)).setCell ⟨gb1244, 1, none⟩ (.slice Ao12 t1239.length co12)) gb1237 l0 t1242 t1243 from by repeat (first | (with_reducible first | exact HI1237.out | apply IsS71.alloc | apply IsS71.drewN | apply IsS71.drew | apply IsS71.set_1 | apply IsS71.set_2 | refine IsS71.far ?_ NB1237_1236.out _ | refine IsS71.far ?_ NB1237_1244.out _) | exact HI1237.out)) hb); (try clear hb); (try clear hb2); (try clear hk); (try clear hi); (try clear ho0)))
 (try simp only [Act.put, List.setIfInBounds_toArray, List.set_cons_zero, List.set_cons_succ])
 go_cut [24] (fun v24 wc => ∃ (kq : Nat) (x24_3 : Bool) (x1238001_3 : Int) (x1238002_3 : Int), v24 = .bool x24_3 ∧ Aside0 (spec_DrawPlayTakes.j0 kq t1245 x24_3 l0 x1238001_3 x1238002_3 t1238 t1239 = some (r1, r2, r3)) ∧ Aside0 (kq ≤ k) ∧ Aside0 (Kd.R (Kd.int .i64) 3 wc w.heap.size (fun k_ => some k_ ≠ ((.slice Ao12 t1239.length co12) : Value).ownBlock) v1246 t1245) ∧ Aside0 (Kd.R (Kd.int .i64) 3 wc w.heap.size (fun k_ => some k_ ≠ (v1246 : Value).ownBlock) (.slice Ao12 t1239.length co12) t1239) ∧ Aside0 (wc.heap[gb1236]? = some (.cells #[.int .i64 0, (.slice none 0 0)] 26 (0, 0))) ∧ Aside0 (wc.heap[gb1244]? = some (.cells #[.int .i64 t1238, (.slice Ao12 t1239.length co12)] 26 (0, 0))) ∧ Aside0 (IsS71 w wc gb1237 l0 x1238001_3 x1238002_3) ∧ Aside0 (Below w.heap.size w wc))
 case first =>
  have H := HC4.out
  clear HC4
  by_cases c14 : t1248 = true
  ·subst c14
   rw [if_pos rfl] at H
   replace H := Option.bind_eq_some_iff.mp H
   obtain ⟨⟨t1249, t1250, t1251⟩, A150, H⟩ := H
   (try dsimp only at H)
   have A15 := Aside0.mk A150
   clear A150
   have H' := Aside0.mk H
   clear H
   go_wp2_with (first | (go_at_call 97; (with_reducible refine (spec_l1Cur_one.calls gb1237 l0 t1242 t1243 2 t1249 t1250 t1251 w _ ?side1 ?side2 A15.out).mono ?_); (case side1 => repeat (first | (with_reducible first | exact HI1237.out | apply IsS71.alloc | apply IsS71.drewN | apply IsS71.drew | apply IsS71.set_1 | apply IsS71.set_2 | refine IsS71.far ?_ NB1237_1236.out _ | refine IsS71.far ?_ NB1237_1244.out _) | exact HI1237.out)); (case side2 => repeat (first | (with_reducible first | exact HB.out | apply below_alloc | apply pw_below_drewN | apply below_drew1 | refine below_set ?_ (IsS71.ge HI1237.out) | refine below_set ?_ GE1236.out | refine below_set ?_ GE1244.out) | exact HB.out)); rintro e w16 ⟨rfl, hi, hb, hk⟩; replace BK1236 := Aside0.mk (KeepBut.blk hk (g' := gb1236) (o := .cells #[.int .i64 0, .slice none 0 0] 26 (0, 0)) (bl_ BK1236) NB1236_1237.out (by simp)); replace HO1241 := Aside0.mk (Kd.R_mono (Kd.R_keep (IsS71.apart (show IsS71 w _ gb1237 l0 t1242 t1243 from by repeat (first | (with_reducible first | exact HI1237.out | apply IsS71.alloc | apply IsS71.drewN | apply IsS71.drew | apply IsS71.set_1 | apply IsS71.set_2 | refine IsS71.far ?_ NB1237_1236.out _ | refine IsS71.far ?_ NB1237_1244.out _) | exact HI1237.out)) (Rl_ HO1241.out) (by decide)) hk (fun _ h => h.2)) (fun _ h => h.1)); replace BK1244 := Aside0.mk (KeepBut.blk hk (g' := gb1244) (o := .cells #[.int .i64 t1238, .slice Ao12 t1239.length co12] 26 (0, 0)) (bl_ BK1244) NB1244_1237.out (by simp)); replace HO1247 := Aside0.mk (Kd.R_mono (Kd.R_keep (IsS71.apart (show IsS71 w _ gb1237 l0 t1242 t1243 from by repeat (first | (with_reducible first | exact HI1237.out | apply IsS71.alloc | apply IsS71.drewN | apply IsS71.drew | apply IsS71.set_1 | apply IsS71.set_2 | refine IsS71.far ?_ NB1237_1236.out _ | refine IsS71.far ?_ NB1237_1244.out _) | exact HI1237.out)) (Rl_ HO1247.out) (by decide)) hk (fun _ h => h.2)) (fun _ h => h.1)); replace HB := Aside0.mk (hb); replace HI1237 := Aside0.mk (hi); (try clear hb); (try clear hb2); (try clear hk); (try clear hi)))
   go_meet
   case rel => exact ⟨_, (t1249), (t1250), (t1251), (by first | rfl | (simp; done) | (simp [*]; done)), H', ⟨by first | omega | exact Nat.le_refl _⟩, ⟨Rl_ (Kd.R_mono HO1247.out (fun _ hk => hk.2))⟩, ⟨Rl_ (Kd.R_mono HO1241.out (fun _ hk => hk.2))⟩, ⟨bl_ BK1236⟩, ⟨bl_ BK1244⟩, ⟨by repeat (first | (with_reducible first | exact HI1237.out | apply IsS71.alloc | apply IsS71.drewN | apply IsS71.drew | apply IsS71.set_1 | apply IsS71.set_2 | refine IsS71.far ?_ NB1237_1236.out _ | refine IsS71.far ?_ NB1237_1244.out _) | exact HI1237.out)⟩, ⟨by repeat (first | (with_reducible first | exact HB.out | apply below_alloc | apply pw_below_drewN | apply below_drew1 | refine below_set ?_ (IsS71.ge HI1237.out) | refine below_set ?_ GE1236.out | refine below_set ?_ GE1244.out) | exact HB.out)⟩⟩
  replace c14 := Bool.eq_false_iff.mpr c14
  subst c14
  rw [if_neg (show ¬ (false = true) by decide)] at H
  have H' := Aside0.mk H
  clear H
  go_wp2
  go_meet
  case rel => exact ⟨_, (false), (t1242), (t1243), (by first | rfl | (simp; done) | (simp [*]; done)), H', ⟨by first | omega | exact Nat.le_refl _⟩, ⟨Rl_ (Kd.R_mono HO1247.out (fun _ hk => hk.2))⟩, ⟨Rl_ (Kd.R_mono HO1241.out (fun _ hk => hk.2))⟩, ⟨bl_ BK1236⟩, ⟨bl_ BK1244⟩, ⟨by repeat (first | (with_reducible first | exact HI1237.out | apply IsS71.alloc | apply IsS71.drewN | apply IsS71.drew | apply IsS71.set_1 | apply IsS71.set_2 | refine IsS71.far ?_ NB1237_1236.out _ | refine IsS71.far ?_ NB1237_1244.out _) | exact HI1237.out)⟩, ⟨by repeat (first | (with_reducible first | exact HB.out | apply below_alloc | apply pw_below_drewN | apply below_drew1 | refine below_set ?_ (IsS71.ge HI1237.out) | refine below_set ?_ GE1236.out | refine below_set ?_ GE1244.out) | exact HB.out)⟩⟩
 case rest =>
  as_aux_lemma =>
   clear HC4
   try clear c1
   try clear p2
   try clear c5
   try clear c6
   try clear c9
   try clear c10
   try clear c12
   try clear c14
   try clear hcz11_0
   try clear hcz11_1
   try clear hfz11_0
   try clear hfz11_1
   obtain ⟨kq, x24_3, x1238001_3, x1238002_3, rfl, HA, HJ3, HO_6, HO_1245001, BK1236, BK1244, HI1237, HB⟩ := hcut
   cases kq with
   | zero => exact absurd HA.out (by simp [spec_DrawPlayTakes.j0])
   | succ kj3 =>
    have H := HA.out
    clear HA
    simp only [spec_DrawPlayTakes.j0] at H
    by_cases c17 : x24_3 = true
    ·subst c17
     rw [if_pos rfl] at H
     replace H := Option.bind_eq_some_iff.mp H
     obtain ⟨⟨t1252, t1253, t1254⟩, A180, H⟩ := H
     (try dsimp only at H)
     have A18 := Aside0.mk A180
     clear A180
     by_cases c19 : 0 ≤ t1252
     rotate_left
     ·rw [if_neg c19] at H
      exact absurd H (by simp)
     rw [if_pos c19] at H
     have c19b0 := eq_true c19
     have c19b1 : decide (0 ≤ t1252) = true := decide_eq_true c19
     clear c19
     by_cases c20 : t1252 ≤ (t1245.length : Int)
     rotate_left
     ·rw [if_neg c20] at H
      exact absurd H (by simp)
     rw [if_pos c20] at H
     have c20b0 := eq_true c20
     have c20b1 : decide (t1252 ≤ (t1245.length : Int)) = true := decide_eq_true c20
     clear c20
     obtain ⟨y1255, hy1255⟩ : ∃ y_ : List Int, y_ = (t1245.take (t1252 : Int).toNat) := ⟨_, rfl⟩
     replace H : (some (t1238, t1239, y1255)) = some (r1, r2, r3) := by first | (rw [hy1255]; with_reducible exact H) | (have H2_ := (Option.bind_some _ _).symm.trans H; rw [hy1255]; with_reducible exact H2_) | (have H2_ := (Option.bind_some _ _).symm.trans H; with_reducible exact H2_) | with_reducible exact H | (rw [hy1255]; exact H) | exact H
     have Ny1255 := Aside0.mk hy1255
     clear hy1255
     simp only [Option.some.injEq, Prod.mk.injEq] at H
     obtain ⟨rfl, rfl, rfl⟩ := H
     try go_wp2
     replace HO_6 := Aside0.mk (Kd.R_drew HO_6.out)
     replace HO_1245001 := Aside0.mk (Kd.R_drew HO_1245001.out)
     replace BK1236 := Aside0.mk (blk_drew BK1236.out)
     replace BK1244 := Aside0.mk (blk_drew BK1244.out)
     replace HI1237 := Aside0.mk (IsS71.drew HI1237.out)
     replace HB := Aside0.mk (below_drew1 HB.out)
     obtain ⟨Ao22, co22, eo22⟩ := Kd.R_slice HO_6.out
     (first | subst eo22 | (injection eo22 with f1_ f2_ f3_; have f4_ := f1_.symm; have f5_ := f3_.symm; clear f1_ f2_ f3_; subst f4_; subst f5_))
     refine start_ (n := 10) (S := fun w' => w'.cell? ⟨gb1244, 0, none⟩ = some (.int .i64 t1238) ∧ w'.cell? ⟨gb1244, 1, none⟩ = some (.slice Ao12 t1239.length co12)) (ds := []) (fl_ 10 0) (by kernel_rfl) rfl rfl ⟨(blk_cell BK1244.out 0).trans rfl, (blk_cell BK1244.out 1).trans rfl⟩ (fun hHeld => ?_); refine with_tabW spec_DrawPlayTakes.tab5 spec_DrawPlayTakes.bits5 (fun HT_ HW_ => ?_)
     generalize wc.drew = w21 at HO_6 HO_1245001 BK1236 BK1244 HI1237 HB hHeld ⊢
     refine pure_ (i := 1) (N := some 26) (v := ?_) (a' := ?_) #[false, true, false, false, false, false, false, false, false, false] rfl rfl (any_of HT_.out (by kernel_rfl)) (fun _ _ _ h => h) (Or.inl ⟨by rfl, ?_⟩) ?_ ?_
     rotate_left
     ·intro w'
      go_simp
      with_reducible rfl
     rotate_left
     ·simp only [Act.put, List.setIfInBounds_toArray, List.set_cons_zero, List.set_cons_succ, i64_w, i32_w]
      rfl
     refine pure_ (i := 2) (N := some 27) (v := ?_) (a' := ?_) #[false, true, true, false, false, false, false, false, false, false] rfl rfl (any_of HT_.out (by kernel_rfl)) (fun _ _ _ h => h) (Or.inl ⟨by rfl, ?_⟩) ?_ ?_
     rotate_left
     ·intro w'
      go_simp
      with_reducible rfl
     rotate_left
     ·simp only [Act.put, List.setIfInBounds_toArray, List.set_cons_zero, List.set_cons_succ, i64_w, i32_w]
      rfl
     refine pure_ (i := 3) (N := some 28) (v := ?_) (a' := ?_) #[false, true, true, true, false, false, false, false, false, false] rfl rfl (any_of HT_.out (by kernel_rfl)) (fun _ _ _ h => h) (Or.inl ⟨by rfl, ?_⟩) ?_ ?_
     rotate_left
     ·intro w'
      go_simp
      with_reducible rfl
     rotate_left
     ·simp only [Act.put, List.setIfInBounds_toArray, List.set_cons_zero, List.set_cons_succ, i64_w, i32_w]
      rfl
     refine pure_ (i := 4) (N := some 29) (v := ?_) (a' := ?_) #[false, true, true, true, true, false, false, false, false, false] rfl rfl (any_of HT_.out (by kernel_rfl)) (fun _ _ _ h => h) (Or.inl ⟨by rfl, ?_⟩) ?_ ?_
     rotate_left
     ·intro w'
      go_simp
      with_reducible rfl
     rotate_left
     ·simp only [Act.put, List.setIfInBounds_toArray, List.set_cons_zero, List.set_cons_succ, i64_w, i32_w]
      rfl
     refine pure_ (i := 5) (N := some 30) (v := ?_) (a' := ?_) #[false, true, true, true, true, true, false, false, false, false] rfl rfl (any_of HT_.out (by kernel_rfl)) (fun _ _ _ h => h) (Or.inl ⟨by rfl, ?_⟩) ?_ ?_
     rotate_left
     ·intro w'
      go_simp
      with_reducible rfl
     rotate_left
     ·simp only [Act.put, List.setIfInBounds_toArray, List.set_cons_zero, List.set_cons_succ, i64_w, i32_w]
      rfl
     refine take_ (i := 0) (N := some 25) (v := ?_) (a' := ?_) (fl_ 10 6) rfl rfl (take_ofW HT_.out HW_.out (by kernel_rfl)) (fun _ _ _ h => h) (Or.inl ⟨by rfl, ?_⟩) hHeld ?_ ?_
     rotate_left
     ·rintro w' ⟨s0, s1⟩
      go_simp
      with_reducible rfl
     rotate_left
     ·simp only [Act.put, List.setIfInBounds_toArray, List.set_cons_zero, List.set_cons_succ, i64_w, i32_w]
      rfl
     refine one_ (i := 6) (N := some 31) (fl_ 10 7) rfl rfl (one_of HT_.out (by kernel_rfl)) (by decide) (fun K hK => ?_)
     refine gs_ Try.func87 (by kernel_rfl) rfl #[.pointer (some ⟨gb1237, 0, none⟩), .int .i64 (wrap64 ((t1245.length : Int) + 1))] (by rfl) rfl rfl ?_
     with_reducible refine (spec_l1Cur_pick.calls gb1237 l0 x1238001_3 x1238002_3 (wrap64 ((t1245.length : Int) + 1)) t1252 t1253 t1254 w _ ?side1 ?side2 A18.out).mono ?_
     (case side1 => repeat (first | (with_reducible first | exact HI1237.out | apply IsS71.alloc | apply IsS71.drewN | apply IsS71.drew | apply IsS71.set_1 | apply IsS71.set_2 | refine IsS71.far ?_ NB1237_1236.out _ | refine IsS71.far ?_ NB1237_1244.out _) | exact HI1237.out))
     (case side2 => repeat (first | (with_reducible first | exact HB.out | apply below_alloc | apply pw_below_drewN | apply below_drew1 | refine below_set ?_ (IsS71.ge HI1237.out) | refine below_set ?_ GE1236.out | refine below_set ?_ GE1244.out) | exact HB.out))
     rintro e w23 ⟨rfl, hi, hb, hk⟩
     refine ⟨_, rfl, ?_⟩
     replace HO_6 := Aside0.mk (Kd.R_mono (Kd.R_keep (IsS71.apart (show IsS71 w _ gb1237 l0 x1238001_3 x1238002_3 from by repeat (first | (with_reducible first | exact HI1237.out | apply IsS71.alloc | apply IsS71.drewN | apply IsS71.drew | apply IsS71.set_1 | apply IsS71.set_2 | refine IsS71.far ?_ NB1237_1236.out _ | refine IsS71.far ?_ NB1237_1244.out _) | exact HI1237.out)) (Rl_ HO_6.out) (by decide)) hk (fun _ h => h.2)) (fun _ h => h.1))
     replace HO_1245001 := Aside0.mk (Kd.R_mono (Kd.R_keep (IsS71.apart (show IsS71 w _ gb1237 l0 x1238001_3 x1238002_3 from by repeat (first | (with_reducible first | exact HI1237.out | apply IsS71.alloc | apply IsS71.drewN | apply IsS71.drew | apply IsS71.set_1 | apply IsS71.set_2 | refine IsS71.far ?_ NB1237_1236.out _ | refine IsS71.far ?_ NB1237_1244.out _) | exact HI1237.out)) (Rl_ HO_1245001.out) (by decide)) hk (fun _ h => h.2)) (fun _ h => h.1))
     replace BK1236 := Aside0.mk (KeepBut.blk hk (g' := gb1236) (o := .cells #[.int .i64 0, .slice none 0 0] 26 (0, 0)) (bl_ BK1236) NB1236_1237.out (by simp))
     replace BK1244 := Aside0.mk (KeepBut.blk hk (g' := gb1244) (o := .cells #[.int .i64 t1238, .slice Ao12 t1239.length co12] 26 (0, 0)) (bl_ BK1244) NB1244_1237.out (by simp))
     replace HB := Aside0.mk (hb)
     replace HI1237 := Aside0.mk (hi)
     (try clear hb); (try clear hb2); (try clear hk); (try clear hi); (try clear ho0)
     have q24 : (t1252 : Int) ≤ ((t1245.length : Int) : Int) := of_decide_eq_true (by first | (with_reducible assumption) | assumption)
     obtain ⟨i024, hi024, _, hsz24, _⟩ := info_parts info3
     have hcut24 := cut_to (P := Try.prog) 24 3 .i64 Try.underlying24 hi024 Ao22 t1245.length co22 t1252 (of_decide_eq_true (by first | (with_reducible assumption) | assumption)) q24 (Kd.R_reads' HO_6.out).2.1
     have hr24 := Kd.R_take (m := (t1252 : Int).toNat) HO_6.out (by omega)
     have hy24 : y1255.length = (t1252 : Int).toNat := (by rw [Ny1255.out, List.length_take]; omega)
     rw [← Ny1255.out] at hr24
     rw [← hy24] at hr24 hcut24
     clear hy24 hi024 hsz24 HO_6
     have HO1257 := Aside0.mk hr24
     clear hr24
     replace q24 := eq_true q24
     refine hK.out _ _ ⟨(blk_cell BK1244.out 0).trans rfl, (blk_cell BK1244.out 1).trans rfl⟩ (fun hHeld => ?_)
     clear hK K
     refine norm_ (a' := ?_) ?_ ?_
     rotate_left
     ·show Act.put _ (some 31) _ = _
      simp only [Act.put, List.setIfInBounds_toArray, List.set_cons_zero, List.set_cons_succ, i64_w, i32_w]
      rfl
     refine pure_ (i := 7) (N := some 32) (v := ?_) (a' := ?_) (fl_ 10 8) rfl rfl (any_of HT_.out (by kernel_rfl)) (fun _ _ _ h => h) (Or.inl ⟨by rfl, ?_⟩) ?_ ?_
     rotate_left
     ·intro w'
      go_simp
      with_reducible rfl
     rotate_left
     ·simp only [Act.put, List.setIfInBounds_toArray, List.set_cons_zero, List.set_cons_succ, i64_w, i32_w]
      rfl
     refine one_ (i := 8) (N := none) (fl_ 10 9) rfl rfl (one_of HT_.out (by kernel_rfl)) (by decide) (fun K hK => ?_)
     have hs25 : w23.cell? ⟨gb1236, 0, none⟩ = some (.int .i64 0) := (blk_cell BK1236.out 0).trans rfl
     have hfs25 := blk_frozen BK1236.out 0
     have hns25_1 := NB1244_1236.out
     have hms25_1 := NB1236_1244.out
     have hs26 : w23.cell? ⟨gb1236, 1, none⟩ = some (.slice none 0 0) := (blk_cell BK1236.out 1).trans rfl
     have hfs26 := blk_frozen BK1236.out 1
     have hns26_1 := NB1244_1236.out
     have hms26_1 := NB1236_1244.out
     refine skip_ (w1 := ?_) (by rfl) rfl ?_ ?_
     rotate_left
     ·go_simp
      rfl
     refine hK.out _ _ ⟨((cell_far (p := ⟨gb1236, _, none⟩) NB1244_1236.out _).trans (((cell_far (p := ⟨gb1236, _, none⟩) NB1244_1236.out _).trans (hHeld.1)))), ((cell_far (p := ⟨gb1236, _, none⟩) NB1244_1236.out _).trans (((cell_far (p := ⟨gb1236, _, none⟩) NB1244_1236.out _).trans (hHeld.2))))⟩ (fun hHeld => ?_)
     clear hK K
     refine pure_ (i := 9) (N := some 3) (v := ?_) (a' := ?_) (fl_ 10 10) rfl rfl (any_of HT_.out (by kernel_rfl)) (fun _ _ _ h => h) (Or.inl ⟨by rfl, ?_⟩) ?_ ?_
     rotate_left
     ·intro w'
      go_simp
      with_reducible rfl
     rotate_left
     ·simp only [Act.put, List.setIfInBounds_toArray, List.set_cons_zero, List.set_cons_succ, i64_w, i32_w]
      rfl
     refine done_ (done_of HT_.out (by kernel_rfl)) ?_
     try go_wp2
     refine bodyPost_ret (results_ct rfl _ _ gb1236 26 #[.int .i64 t1238, .slice Ao12 t1239.length co12] (0, 0) _ rfl (by (with_reducible repeat (first | refine blk_drewN ?_ _ | refine blk_drew ?_ | refine blk_alloc ?_ _)); refine blk_put (cs := #[.int .i64 t1238, .slice none 0 0]) ?_ 1 _ rfl; (with_reducible repeat (first | refine blk_drewN ?_ _ | refine blk_drew ?_ | refine blk_alloc ?_ _)); refine blk_put (cs := #[.int .i64 0, .slice none 0 0]) ?_ 0 _ rfl; (with_reducible repeat (first | refine blk_drewN ?_ _ | refine blk_drew ?_ | refine blk_alloc ?_ _)); exact BK1236.out) Try.underlying26 rfl (by kernel_rfl)) rfl ?_
     exact ⟨_, _, by first | rfl | (simp [errW_none, errW_some] <;> rfl) | (simp [*, errW_none, errW_some] <;> rfl), by (with_reducible repeat (first | apply Kd.R_alloc | apply Kd.R_drewN | apply Kd.R_drew)); exact Kd.R_mono (Kd.R_far (p := ⟨gb1236, 1, none⟩) (Kd.R_far (p := ⟨gb1236, 0, none⟩) (Kd.R_types HO_1245001.out BK1236.out (by decide)) (fun _ hk => hk.2) (.int .i64 t1238)) (fun _ hk => hk.2) (.slice Ao12 t1239.length co12)) (fun _ hk => by first | exact hk.1 | exact (show ∀ (A : Option Addr) (n c n' c' k : Nat), some k ≠ (Value.slice A n c).ownBlock → some k ≠ (Value.slice A n' c').ownBlock from fun A _ _ _ _ _ h => by cases A <;> exact h) _ _ _ _ _ _ hk.1), by (with_reducible repeat (first | apply Kd.R_alloc | apply Kd.R_drewN | apply Kd.R_drew)); exact Kd.R_mono (Kd.R_far (p := ⟨gb1236, 1, none⟩) (Kd.R_far (p := ⟨gb1236, 0, none⟩) (Kd.R_types HO1257.out BK1236.out (by decide)) (fun _ hk => hk.2) (.int .i64 t1238)) (fun _ hk => hk.2) (.slice Ao12 t1239.length co12)) (fun _ hk => by first | exact hk.1 | exact (show ∀ (A : Option Addr) (n c n' c' k : Nat), some k ≠ (Value.slice A n c).ownBlock → some k ≠ (Value.slice A n' c').ownBlock from fun A _ _ _ _ _ h => by cases A <;> exact h) _ _ _ _ _ _ hk.1), by repeat (first | (with_reducible first | exact HB.out | apply below_alloc | apply pw_below_drewN | apply below_drew1 | refine below_set ?_ (IsS71.ge HI1237.out) | refine below_set ?_ GE1236.out | refine below_set ?_ GE1244.out) | exact HB.out)⟩
    replace c17 := Bool.eq_false_iff.mpr c17
    subst c17
    rw [if_neg (show ¬ (false = true) by decide)] at H
    replace H := Option.bind_eq_some_iff.mp H
    obtain ⟨⟨t1258, t1259, t1260⟩, A270, H⟩ := H
    (try dsimp only at H)
    have A27 := Aside0.mk A270
    clear A270
    have H' := Aside0.mk H
    clear H
    go_wp2_with (first | ((with_reducible refine gate_callee (f := 87) rfl ?_); refine gl_ (some 34) rfl rfl Try.func87 (by kernel_rfl) rfl #[.pointer (some ⟨gb1237, 0, none⟩), .int .i64 5] rfl ?_; (with_reducible refine (spec_l1Cur_pick.calls gb1237 l0 x1238001_3 x1238002_3 5 t1258 t1259 t1260 w _ ?side1 ?side2 A27.out).mono ?_); (case side1 => repeat (first | (with_reducible first | exact HI1237.out | apply IsS71.alloc | apply IsS71.drewN | apply IsS71.drew | apply IsS71.set_1 | apply IsS71.set_2 | refine IsS71.far ?_ NB1237_1236.out _ | refine IsS71.far ?_ NB1237_1244.out _) | exact HI1237.out)); (case side2 => repeat (first | (with_reducible first | exact HB.out | apply below_alloc | apply pw_below_drewN | apply below_drew1 | refine below_set ?_ (IsS71.ge HI1237.out) | refine below_set ?_ GE1236.out | refine below_set ?_ GE1244.out) | exact HB.out)); rintro e w28 ⟨rfl, hi, hb, hk⟩; refine ⟨_, rfl, ?_⟩; replace HO_6 := Aside0.mk (Kd.R_mono (Kd.R_keep (IsS71.apart (show IsS71 w _ gb1237 l0 x1238001_3 x1238002_3 from by repeat (first | (with_reducible first | exact HI1237.out | apply IsS71.alloc | apply IsS71.drewN | apply IsS71.drew | apply IsS71.set_1 | apply IsS71.set_2 | refine IsS71.far ?_ NB1237_1236.out _ | refine IsS71.far ?_ NB1237_1244.out _) | exact HI1237.out)) (Rl_ HO_6.out) (by decide)) hk (fun _ h => h.2)) (fun _ h => h.1)); replace HO_1245001 := Aside0.mk (Kd.R_mono (Kd.R_keep (IsS71.apart (show IsS71 w _ gb1237 l0 x1238001_3 x1238002_3 from by repeat (first | (with_reducible first | exact HI1237.out | apply IsS71.alloc | apply IsS71.drewN | apply IsS71.drew | apply IsS71.set_1 | apply IsS71.set_2 | refine IsS71.far ?_ NB1237_1236.out _ | refine IsS71.far ?_ NB1237_1244.out _) | exact HI1237.out)) (Rl_ HO_1245001.out) (by decide)) hk (fun _ h => h.2)) (fun _ h => h.1)); replace BK1236 := Aside0.mk (KeepBut.blk hk (g' := gb1236) (o := .cells #[.int .i64 0, .slice none 0 0] 26 (0, 0)) (bl_ BK1236) NB1236_1237.out (by simp)); replace BK1244 := Aside0.mk (KeepBut.blk hk (g' := gb1244) (o := .cells #[.int .i64 t1238, .slice Ao12 t1239.length co12] 26 (0, 0)) (bl_ BK1244) NB1244_1237.out (by simp)); replace HB := Aside0.mk (hb); replace HI1237 := Aside0.mk (hi); (try clear hb); (try clear hb2); (try clear hk); (try clear hi)))
    go_loopg [8, 9] kj3 (fun kq v8 v9 w' => ∃ (x8_2 : List Int) (x9_2 : Int) (x1238001_2 : Int) (x1238002_2 : Int), v9 = .int .i64 x9_2 ∧ Aside0 (spec_DrawPlayTakes.l0 kq x8_2 x9_2 l0 x1238001_2 x1238002_2 t1238 t1239 = some (r1, r2, r3)) ∧ Aside0 (kq ≤ kj3) ∧ Aside0 (Kd.R (Kd.int .i64) 3 w' w.heap.size (fun k_ => some k_ ≠ ((.slice Ao12 t1239.length co12) : Value).ownBlock) v8 x8_2) ∧ Aside0 (Kd.R (Kd.int .i64) 3 w' w.heap.size (fun k_ => some k_ ≠ (v8 : Value).ownBlock) (.slice Ao12 t1239.length co12) t1239) ∧ Aside0 (w'.heap[gb1236]? = some (.cells #[.int .i64 0, (.slice none 0 0)] 26 (0, 0))) ∧ Aside0 (w'.heap[gb1244]? = some (.cells #[.int .i64 t1238, (.slice Ao12 t1239.length co12)] 26 (0, 0))) ∧ Aside0 (IsS71 w w' gb1237 l0 x1238001_2 x1238002_2) ∧ Aside0 (Below w.heap.size w w'))
    case atStart => exact ⟨(([] : List Int)), (t1258), (t1259), (t1260), (by first | rfl | (simp; done) | (simp [*]; done)), H', ⟨Nat.le_refl _⟩, ⟨by first | exact Kd.R_nil _ _ _ _ _ | exact Kd.N_nil _ _ _ _ _ | exact Kd.V_nil _ _ _ _ _ | exact Kd.Q_nil _ _ _ _ _ | exact Kd.S_nil _ _ _ _ _⟩, ⟨Rl_ (Kd.R_mono HO_1245001.out (fun _ hk => (by simp [Value.ownBlock])))⟩, ⟨bl_ BK1236⟩, ⟨bl_ BK1244⟩, ⟨by repeat (first | (with_reducible first | exact HI1237.out | apply IsS71.alloc | apply IsS71.drewN | apply IsS71.drew | apply IsS71.set_1 | apply IsS71.set_2 | refine IsS71.far ?_ NB1237_1236.out _ | refine IsS71.far ?_ NB1237_1244.out _) | exact HI1237.out)⟩, ⟨by repeat (first | (with_reducible first | exact HB.out | apply below_alloc | apply pw_below_drewN | apply below_drew1 | refine below_set ?_ (IsS71.ge HI1237.out) | refine below_set ?_ GE1236.out | refine below_set ?_ GE1244.out) | exact HB.out)⟩⟩
    case round =>
     clear H'
     try clear c1
     try clear c2
     try clear p2
     try clear q2
     try clear c5
     try clear c6
     try clear p6
     try clear c8
     try clear c9
     try clear c10
     try clear c12
     try clear c14
     try clear c17
     try clear c19
     try clear c19b0
     try clear c19b1
     try clear c20
     try clear c20b0
     try clear c20b1
     try clear q24
     try clear hcz11_0
     try clear hcz11_1
     try clear hfz11_0
     try clear hfz11_1
     try clear p2
     try clear q24
     obtain ⟨x8_2, x9_2, x1238001_2, x1238002_2, rfl, HA, HK2, HO_8, HO_1245001, BK1236, BK1244, HI1237, HB⟩ := hrel
     cases gk with
     | zero => exact absurd HA.out (by simp [spec_DrawPlayTakes.l0])
     | succ k2 =>
      have H := HA.out
      clear HA
      simp only [spec_DrawPlayTakes.l0] at H
      by_cases c29 : x9_2 > 0
      ·rw [if_pos c29] at H
       have c29b0 : decide (0 < x9_2) = true := decide_eq_true c29
       clear c29
       replace H := Option.bind_eq_some_iff.mp H
       obtain ⟨⟨t1261, t1262, t1263⟩, A300, H⟩ := H
       (try dsimp only at H)
       have A30 := Aside0.mk A300
       clear A300
       replace H := Option.bind_eq_some_iff.mp H
       obtain ⟨⟨t1264, t1265, t1266⟩, A310, H⟩ := H
       (try dsimp only at H)
       have A31 := Aside0.mk A310
       clear A310
       by_cases c32 : x8_2.length < 17592186044416
       rotate_left
       ·rw [if_neg c32] at H
        exact absurd H (by simp)
       rw [if_pos c32] at H
       have LMc32 := Aside0.mk c32
       clear c32
       obtain ⟨y1267, hy1267⟩ : ∃ y_ : List Int, y_ = (x8_2 ++ [wrap64 (t1261 - t1264)]) := ⟨_, rfl⟩
       replace H : (spec_DrawPlayTakes.l0 k2 y1267 (wrap64 (x9_2 - 1)) l0 t1265 t1266 t1238 t1239) = some (r1, r2, r3) := by first | (rw [hy1267]; with_reducible exact H) | (have H2_ := (Option.bind_some _ _).symm.trans H; rw [hy1267]; with_reducible exact H2_) | (have H2_ := (Option.bind_some _ _).symm.trans H; with_reducible exact H2_) | with_reducible exact H | (rw [hy1267]; exact H) | exact H
       have Ny1267 := Aside0.mk hy1267
       clear hy1267
       have H' := Aside0.mk H
       clear H
       go_wp2_with (first | ((with_reducible refine gate_callee (f := 87) rfl ?_); refine gl_ (some 41) rfl rfl Try.func87 (by kernel_rfl) rfl #[.pointer (some ⟨gb1237, 0, none⟩), .int .i64 9] rfl ?_; (with_reducible refine (spec_l1Cur_pick.calls gb1237 l0 x1238001_2 x1238002_2 9 t1261 t1262 t1263 w _ ?side1 ?side2 A30.out).mono ?_); (case side1 => repeat (first | (with_reducible first | exact HI1237.out | apply IsS71.alloc | apply IsS71.drewN | apply IsS71.drew | apply IsS71.set_1 | apply IsS71.set_2 | refine IsS71.far ?_ NB1237_1236.out _ | refine IsS71.far ?_ NB1237_1244.out _) | exact HI1237.out)); (case side2 => repeat (first | (with_reducible first | exact HB.out | apply below_alloc | apply pw_below_drewN | apply below_drew1 | refine below_set ?_ (IsS71.ge HI1237.out) | refine below_set ?_ GE1236.out | refine below_set ?_ GE1244.out) | exact HB.out)); rintro e w33 ⟨rfl, hi, hb, hk⟩; refine ⟨_, rfl, ?_⟩; replace HO_8 := Aside0.mk (Kd.R_mono (Kd.R_keep (IsS71.apart (show IsS71 w _ gb1237 l0 x1238001_2 x1238002_2 from by repeat (first | (with_reducible first | exact HI1237.out | apply IsS71.alloc | apply IsS71.drewN | apply IsS71.drew | apply IsS71.set_1 | apply IsS71.set_2 | refine IsS71.far ?_ NB1237_1236.out _ | refine IsS71.far ?_ NB1237_1244.out _) | exact HI1237.out)) (Rl_ HO_8.out) (by decide)) hk (fun _ h => h.2)) (fun _ h => h.1)); replace HO_1245001 := Aside0.mk (Kd.R_mono (Kd.R_keep (IsS71.apart (show IsS71 w _ gb1237 l0 x1238001_2 x1238002_2 from by repeat (first | (with_reducible first | exact HI1237.out | apply IsS71.alloc | apply IsS71.drewN | apply IsS71.drew | apply IsS71.set_1 | apply IsS71.set_2 | refine IsS71.far ?_ NB1237_1236.out _ | refine IsS71.far ?_ NB1237_1244.out _) | exact HI1237.out)) (Rl_ HO_1245001.out) (by decide)) hk (fun _ h => h.2)) (fun _ h => h.1)); replace BK1236 := Aside0.mk (KeepBut.blk hk (g' := gb1236) (o := .cells #[.int .i64 0, .slice none 0 0] 26 (0, 0)) (bl_ BK1236) NB1236_1237.out (by simp)); replace BK1244 := Aside0.mk (KeepBut.blk hk (g' := gb1244) (o := .cells #[.int .i64 t1238, .slice Ao12 t1239.length co12] 26 (0, 0)) (bl_ BK1244) NB1244_1237.out (by simp)); replace HB := Aside0.mk (hb); replace HI1237 := Aside0.mk (hi); (try clear hb); (try clear hb2); (try clear hk); (try clear hi)) | ((with_reducible refine gate_callee (f := 87) rfl ?_); refine gl_ (some 43) rfl rfl Try.func87 (by kernel_rfl) rfl #[.pointer (some ⟨gb1237, 0, none⟩), .int .i64 2] rfl ?_; (with_reducible refine (spec_l1Cur_pick.calls gb1237 l0 t1262 t1263 2 t1264 t1265 t1266 w _ ?side1 ?side2 A31.out).mono ?_); (case side1 => repeat (first | (with_reducible first | exact HI1237.out | apply IsS71.alloc | apply IsS71.drewN | apply IsS71.drew | apply IsS71.set_1 | apply IsS71.set_2 | refine IsS71.far ?_ NB1237_1236.out _ | refine IsS71.far ?_ NB1237_1244.out _) | exact HI1237.out)); (case side2 => repeat (first | (with_reducible first | exact HB.out | apply below_alloc | apply pw_below_drewN | apply below_drew1 | refine below_set ?_ (IsS71.ge HI1237.out) | refine below_set ?_ GE1236.out | refine below_set ?_ GE1244.out) | exact HB.out)); rintro e w34 ⟨rfl, hi, hb, hk⟩; refine ⟨_, rfl, ?_⟩; replace HO_8 := Aside0.mk (Kd.R_mono (Kd.R_keep (IsS71.apart (show IsS71 w _ gb1237 l0 t1262 t1263 from by repeat (first | (with_reducible first | exact HI1237.out | apply IsS71.alloc | apply IsS71.drewN | apply IsS71.drew | apply IsS71.set_1 | apply IsS71.set_2 | refine IsS71.far ?_ NB1237_1236.out _ | refine IsS71.far ?_ NB1237_1244.out _) | exact HI1237.out)) (Rl_ HO_8.out) (by decide)) hk (fun _ h => h.2)) (fun _ h => h.1)); replace HO_1245001 := Aside0.mk (Kd.R_mono (Kd.R_keep (IsS71.apart (show IsS71 w _ gb1237 l0 t1262 t1263 from by repeat (first | (with_reducible first | exact HI1237.out | apply IsS71.alloc | apply IsS71.drewN | apply IsS71.drew | apply IsS71.set_1 | apply IsS71.set_2 | refine IsS71.far ?_ NB1237_1236.out _ | refine IsS71.far ?_ NB1237_1244.out _) | exact HI1237.out)) (Rl_ HO_1245001.out) (by decide)) hk (fun _ h => h.2)) (fun _ h => h.1)); replace BK1236 := Aside0.mk (KeepBut.blk hk (g' := gb1236) (o := .cells #[.int .i64 0, .slice none 0 0] 26 (0, 0)) (bl_ BK1236) NB1236_1237.out (by simp)); replace BK1244 := Aside0.mk (KeepBut.blk hk (g' := gb1244) (o := .cells #[.int .i64 t1238, .slice Ao12 t1239.length co12] 26 (0, 0)) (bl_ BK1244) NB1244_1237.out (by simp)); replace HB := Aside0.mk (hb); replace HI1237 := Aside0.mk (hi); (try clear hb); (try clear hb2); (try clear hk); (try clear hi)) | ((with_reducible refine gate_builtin (b := .append) (xs := #[.tmp 39, .tmp 45]) rfl ?_); at_builtin; refine Kd.R_append (Kd.int .i64) (w0 := w) w.heap.size rfl (.tmp 39) (.tmp 45) 24 3 (.int .i64 0) 8 rfl Try.underlying24 info3 rfl (by decide) (by omega) u8 x8_2 (wrap64 (t1261 - t1264)) [.int .i64 (wrap64 (t1261 - t1264))] (fun k_ => some k_ ≠ (.slice Ao12 t1239.length co12 : Value).ownBlock) (fun _ => False) rfl rfl ?aP (fun _ hk => hk.elim) ?aF ?aO ?aB ?aS ?aL ?_; (case aP => exact rfl); (case aB => exact (by repeat (first | (with_reducible first | exact HB.out | apply below_alloc | apply pw_below_drewN | apply below_drew1 | refine below_set ?_ (IsS71.ge HI1237.out) | refine below_set ?_ GE1236.out | refine below_set ?_ GE1244.out) | exact HB.out))); (case aF => exact (fun k_ hk => Kd.fresh' (Kd.R_lt (Rl_ HO_1245001.out)) k_ hk)); (case aO => exact (Rl_ HO_8.out)); (case aS => exact (below_size (by repeat (first | (with_reducible first | exact HB.out | apply below_alloc | apply pw_below_drewN | apply below_drew1 | refine below_set ?_ (IsS71.ge HI1237.out) | refine below_set ?_ GE1236.out | refine below_set ?_ GE1244.out) | exact HB.out)))); (case aL => have := LMc32.out; omega); intro v1268 w35 ho hb hg hat; rw [← Ny1267.out] at ho; replace HO_1245001 := Aside0.mk (Kd.R_after (ok := (fun _ => True)) (Rl_ (Kd.R_mono HO_1245001.out (fun _ hk => ⟨trivial, hk⟩))) hg hat); replace BK1236 := Aside0.mk (blk_grown (g := gb1236) (o := .cells #[.int .i64 0, .slice none 0 0] 26 (0, 0)) (bl_ BK1236) hg (Kd.R_ne HO_8.out BK1236.out (by decide))); replace BK1244 := Aside0.mk (blk_grown (g := gb1244) (o := .cells #[.int .i64 t1238, .slice Ao12 t1239.length co12] 26 (0, 0)) (bl_ BK1244) hg (Kd.R_ne HO_8.out BK1244.out (by decide))); replace HI1237 := Aside0.mk (IsS71.grown (by repeat (first | (with_reducible first | exact HI1237.out | apply IsS71.alloc | apply IsS71.drewN | apply IsS71.drew | apply IsS71.set_1 | apply IsS71.set_2 | refine IsS71.far ?_ NB1237_1236.out _ | refine IsS71.far ?_ NB1237_1244.out _) | exact HI1237.out)) hg (IsS71.own_ne HI1237.out HO_8.out (by decide))); replace HB := Aside0.mk (hb); have HO1269 := Aside0.mk (ho); clear HO_8; clear ho hb hg hat))
       go_roundg k2
       case measure => have := HJ3.out; have := HK2.out; omega
       case rel => exact ⟨(y1267), (wrap64 (x9_2 - 1)), (t1265), (t1266), (by first | rfl | (simp; done) | (simp [*]; done)), H', ⟨by have := HJ3.out; have := HK2.out; omega⟩, ⟨Rl_ HO1269.out⟩, ⟨Rl_ (Kd.R_mono HO_1245001.out (fun _ hk => hk.2))⟩, ⟨bl_ BK1236⟩, ⟨bl_ BK1244⟩, ⟨by repeat (first | (with_reducible first | exact HI1237.out | apply IsS71.alloc | apply IsS71.drewN | apply IsS71.drew | apply IsS71.set_1 | apply IsS71.set_2 | refine IsS71.far ?_ NB1237_1236.out _ | refine IsS71.far ?_ NB1237_1244.out _) | exact HI1237.out)⟩, ⟨by repeat (first | (with_reducible first | exact HB.out | apply below_alloc | apply pw_below_drewN | apply below_drew1 | refine below_set ?_ (IsS71.ge HI1237.out) | refine below_set ?_ GE1236.out | refine below_set ?_ GE1244.out) | exact HB.out)⟩⟩
      rw [if_neg c29] at H
      have c29b0 : decide (0 < x9_2) = false := decide_eq_false c29
      clear c29
      simp only [Option.some.injEq, Prod.mk.injEq] at H
      obtain ⟨rfl, rfl, rfl⟩ := H
      have hnb36 := NB1244_1236.out
      have hnc36 := NB1236_1244.out
      have hnb37 := NB1244_1237.out
      have hnc37 := NB1237_1244.out
      have hcz38_0 : wr.cell? ⟨gb1244, 0, none⟩ = some (.int .i64 t1238) := (blk_cell BK1244.out 0).trans rfl
      have hcz38_1 : wr.cell? ⟨gb1244, 1, none⟩ = some (.slice Ao12 t1239.length co12) := (blk_cell BK1244.out 1).trans rfl
      have hfz38_0 := blk_frozen BK1244.out 0
      have hfz38_1 := blk_frozen BK1244.out 1
      have hnb39 := NB1236_1237.out
      have hnc39 := NB1237_1236.out
      have hcz40_0 : wr.cell? ⟨gb1236, 0, none⟩ = some (.int .i64 0) := (blk_cell BK1236.out 0).trans rfl
      have hcz40_1 : wr.cell? ⟨gb1236, 1, none⟩ = some (.slice none 0 0) := (blk_cell BK1236.out 1).trans rfl
      have hfz40_0 := blk_frozen BK1236.out 0
      have hfz40_1 := blk_frozen BK1236.out 1
      go_wp2
      refine bodyPost_ret (results_ct rfl _ _ gb1236 26 #[.int .i64 t1238, .slice Ao12 t1239.length co12] (0, 0) _ rfl (by (with_reducible repeat (first | refine blk_drewN ?_ _ | refine blk_drew ?_ | refine blk_alloc ?_ _)); refine blk_put (cs := #[.int .i64 t1238, .slice none 0 0]) ?_ 1 _ rfl; (with_reducible repeat (first | refine blk_drewN ?_ _ | refine blk_drew ?_ | refine blk_alloc ?_ _)); refine blk_put (cs := #[.int .i64 0, .slice none 0 0]) ?_ 0 _ rfl; (with_reducible repeat (first | refine blk_drewN ?_ _ | refine blk_drew ?_ | refine blk_alloc ?_ _)); exact BK1236.out) Try.underlying26 rfl (by kernel_rfl)) rfl ?_
      exact ⟨_, _, by first | rfl | (simp [errW_none, errW_some] <;> rfl) | (simp [*, errW_none, errW_some] <;> rfl), by (with_reducible repeat (first | apply Kd.R_alloc | apply Kd.R_drewN | apply Kd.R_drew)); exact Kd.R_mono (Kd.R_far (p := ⟨gb1236, 1, none⟩) (Kd.R_far (p := ⟨gb1236, 0, none⟩) (Kd.R_types HO_1245001.out BK1236.out (by decide)) (fun _ hk => hk.2) (.int .i64 t1238)) (fun _ hk => hk.2) (.slice Ao12 t1239.length co12)) (fun _ hk => by first | exact hk.1 | exact (show ∀ (A : Option Addr) (n c n' c' k : Nat), some k ≠ (Value.slice A n c).ownBlock → some k ≠ (Value.slice A n' c').ownBlock from fun A _ _ _ _ _ h => by cases A <;> exact h) _ _ _ _ _ _ hk.1), by (with_reducible repeat (first | apply Kd.R_alloc | apply Kd.R_drewN | apply Kd.R_drew)); exact Kd.R_mono (Kd.R_far (p := ⟨gb1236, 1, none⟩) (Kd.R_far (p := ⟨gb1236, 0, none⟩) (Kd.R_types HO_8.out BK1236.out (by decide)) (fun _ hk => hk.2) (.int .i64 t1238)) (fun _ hk => hk.2) (.slice Ao12 t1239.length co12)) (fun _ hk => by first | exact hk.1 | exact (show ∀ (A : Option Addr) (n c n' c' k : Nat), some k ≠ (Value.slice A n c).ownBlock → some k ≠ (Value.slice A n' c').ownBlock from fun A _ _ _ _ _ h => by cases A <;> exact h) _ _ _ _ _ _ hk.1), by repeat (first | (with_reducible first | exact HB.out | apply below_alloc | apply pw_below_drewN | apply below_drew1 | refine below_set ?_ (IsS71.ge HI1237.out) | refine below_set ?_ GE1236.out | refine below_set ?_ GE1244.out) | exact HB.out)⟩

/-! ### spec_PlayTakes: function 65 -/
mutual
def spec_PlayTakes.j0 : Nat → List Int → Bool → Int → List Int → Option (Int × List Int × Bool)
 | 0, _, _, _, _ => none
 | k + 1, x1, x19, x1271000, x1271001 => if x19 = true then (some (0, ([] : List Int), false)) else (spec_PlayTakes.l0 k (wrap64 ((shl .i64 1 (x1271001.length : Int)) - 1)) x1 (x1.length : Int) 0 x1271000 x1271001)
def spec_PlayTakes.l0 : Nat → Int → List Int → Int → Int → Int → List Int → Option (Int × List Int × Bool)
 | 0, _, _, _, _, _, _ => none
 | k + 1, x6, x26, x27, x28, x1271000, x1271001 => if x28 < x27 then (if 0 ≤ x28 then (if x28 < (x26.length : Int) then ((spec_l1In.f (rd x26 x28) 0 (wrap64 ((x1271001.length : Int) - 1))).bind fun t1277 => (if t1277 = true then (if 0 ≤ (rd x26 x28) then (if (Int.tmod (shr .i64 x6 (rd x26 x28)) 2) = 0 then (some (0, ([] : List Int), false)) else ((spec_gaLeft.f k x1271000 x1271001 x6).bind fun t1278 => ((spec_gaHome.f k x1271000 t1278).bind fun t1281 => (if t1281 = true then (some (0, ([] : List Int), false)) else (spec_PlayTakes.l0 k (Go.bits .andNot .i64 x6 (shl .i64 1 (rd x26 x28))) x26 x27 (wrap64 (x28 + 1)) x1271000 x1271001))))) else (none)) else (some (0, ([] : List Int), false)))) else (none)) else (none)) else ((spec_gaLeft.f k x1271000 x1271001 x6).bind fun t1273 => (some (x1271000, t1273, true)))
end
def spec_PlayTakes.f (k : Nat) (a0_0 : Int) (l0_1 : List Int) (l1 : List Int) : Option (Int × List Int × Bool) := (spec_gaTaking.f k a0_0 l0_1).bind fun t1272 => (if t1272 = true then (spec_PlayTakes.j0 k l1 (decide ((l1.length : Int) > (l0_1.length : Int))) a0_0 l0_1) else (spec_PlayTakes.j0 k l1 true a0_0 l0_1))
theorem spec_PlayTakes.mono_l : ∀ k, (∀ y0 y1 y2 y3, LeO (spec_PlayTakes.j0 k y0 y1 y2 y3) (spec_PlayTakes.j0 (k + 1) y0 y1 y2 y3)) ∧ (∀ y0 y1 y2 y3 y4 y5, LeO (spec_PlayTakes.l0 k y0 y1 y2 y3 y4 y5) (spec_PlayTakes.l0 (k + 1) y0 y1 y2 y3 y4 y5))
 | 0 => ⟨fun _ _ _ _ r h => by simp [spec_PlayTakes.j0] at h, fun _ _ _ _ _ _ r h => by simp [spec_PlayTakes.l0] at h⟩
 | k + 1 => by
  obtain ⟨ih0, ih1⟩ := spec_PlayTakes.mono_l k
  refine ⟨?_, ?_⟩
  ·intro y0 y1 y2 y3
   unfold spec_PlayTakes.j0
   repeat' first
   | (with_reducible exact ih0 _ _ _ _)
   | (with_reducible exact ih1 _ _ _ _ _ _)
   | (with_reducible exact spec_gaHome.mono _ _ _)
   | (with_reducible exact spec_gaLeft.mono _ _ _ _)
   | (with_reducible exact spec_gaTaking.mono _ _ _)
   | (with_reducible exact LeO.refl _)
   | (with_reducible exact LeO.none _)
   | (with_reducible refine LeO.ite ?_ ?_)
   | (with_reducible refine LeO.bind ?_ (fun _ => ?_))
   | exact ih0 _ _ _ _
   | exact ih1 _ _ _ _ _ _
   | exact spec_gaHome.mono _ _ _
   | exact spec_gaLeft.mono _ _ _ _
   | exact spec_gaTaking.mono _ _ _
   | exact LeO.none _
   | refine LeO.ite ?_ ?_
   | refine LeO.bind ?_ (fun _ => ?_)
  ·intro y0 y1 y2 y3 y4 y5
   unfold spec_PlayTakes.l0
   repeat' first
   | (with_reducible exact ih0 _ _ _ _)
   | (with_reducible exact ih1 _ _ _ _ _ _)
   | (with_reducible exact spec_gaHome.mono _ _ _)
   | (with_reducible exact spec_gaLeft.mono _ _ _ _)
   | (with_reducible exact spec_gaTaking.mono _ _ _)
   | (with_reducible exact LeO.refl _)
   | (with_reducible exact LeO.none _)
   | (with_reducible refine LeO.ite ?_ ?_)
   | (with_reducible refine LeO.bind ?_ (fun _ => ?_))
   | exact ih0 _ _ _ _
   | exact ih1 _ _ _ _ _ _
   | exact spec_gaHome.mono _ _ _
   | exact spec_gaLeft.mono _ _ _ _
   | exact spec_gaTaking.mono _ _ _
   | exact LeO.none _
   | refine LeO.ite ?_ ?_
   | refine LeO.bind ?_ (fun _ => ?_)
theorem spec_PlayTakes.mono : ∀ a0 a1 a2 k, LeO (spec_PlayTakes.f k a0 a1 a2) (spec_PlayTakes.f (k + 1) a0 a1 a2) := by
 intro a0 a1 a2 k
 obtain ⟨ih0, ih1⟩ := spec_PlayTakes.mono_l k
 unfold spec_PlayTakes.f
 repeat' first
  | (with_reducible exact ih0 _ _ _ _)
  | (with_reducible exact ih1 _ _ _ _ _ _)
  | (with_reducible exact spec_gaHome.mono _ _ _)
  | (with_reducible exact spec_gaLeft.mono _ _ _ _)
  | (with_reducible exact spec_gaTaking.mono _ _ _)
  | (with_reducible exact LeO.refl _)
  | (with_reducible exact LeO.none _)
  | (with_reducible refine LeO.ite ?_ ?_)
  | (with_reducible refine LeO.bind ?_ (fun _ => ?_))
  | exact ih0 _ _ _ _
  | exact ih1 _ _ _ _ _ _
  | exact spec_gaHome.mono _ _ _
  | exact spec_gaLeft.mono _ _ _ _
  | exact spec_gaTaking.mono _ _ _
  | exact LeO.none _
  | refine LeO.ite ?_ ?_
  | refine LeO.bind ?_ (fun _ => ?_)
def spec_PlayTakes.T7 : Bool × List (List Nat × List Nat) := (true, [([], []), ([], []), ([1], [1]), ([2], [2]), ([3], [3]), ([0, 4], [0, 4]), ([5], [5]), ([6, 5], [6]), ([7], [7]), ([7], [7]), ([8, 9, 7], [7, 8, 9]), ([10, 7], [7, 10]), ([11, 7], [7, 11]), ([7, 12], [7, 12]), ([13, 7], [13]), ([14], [14]), ([15, 14], [14, 15]), ([14], [14]), ([14], [14]), ([17, 18, 14, 14], [14, 17, 18]), ([16, 19, 19, 14], [14, 16, 19]), ([14, 20], [14, 20])])
def spec_PlayTakes.B7 : List Nat := [0, 0, 2, 6, 14, 31, 63, 127, 255, 255, 1023, 2047, 4095, 8191, 16383, 32767, 65535, 32767, 32767, 425983, 1048575, 2097151]
theorem spec_PlayTakes.tab7 : rtab .any (opsOf Try.f65 7) = spec_PlayTakes.T7 := by kernel_rfl
theorem spec_PlayTakes.bits7 : waitsOk spec_PlayTakes.T7.2 spec_PlayTakes.B7 = true := by kernel_rfl
def spec_PlayTakes.T11 : Bool × List (List Nat × List Nat) := (true, [([], []), ([0], [0]), ([], []), ([], []), ([2, 3], [2, 3]), ([1, 4], [1, 4]), ([5, 4, 0, 1, 2, 3, 4, 5], [5]), ([6, 0, 1, 2, 3, 4, 5, 6], [])])
def spec_PlayTakes.B11 : List Nat := [0, 1, 0, 0, 12, 31, 63, 127]
theorem spec_PlayTakes.tab11 : rtab .any (opsOf Try.f65 11) = spec_PlayTakes.T11 := by kernel_rfl
theorem spec_PlayTakes.bits11 : waitsOk spec_PlayTakes.T11.2 spec_PlayTakes.B11 = true := by kernel_rfl
set_option maxHeartbeats 8000000 in
set_option maxRecDepth 100000 in
theorem spec_PlayTakes.calls (k : Nat) (a0_0 : Int) (A0_1 : Option Addr) (c0_1 : Nat) (l0_1 : List Int) (A1 : Option Addr) (c1 : Nat) (l1 : List Int) (r1 : Int) (r2 : List Int) (r3 : Bool) (w : World) (hr0_1 : Kd.C (Kd.int .i64) w A0_1 l0_1.length l0_1) (hc0_1 : l0_1.length ≤ c0_1) (hr1 : Kd.C (Kd.int .i64) w A1 l1.length l1) (hc1 : l1.length ≤ c1) (h : spec_PlayTakes.f k a0_0 l0_1 l1 = some (r1, r2, r3)) :
 Calls Try.prog 65 #[.agg #[.int .i64 a0_0, .slice A0_1 l0_1.length c0_1], .slice A1 l1.length c1] w fun e w' => ∃ v1_ : Value, e = .returned (.tuple #[.agg #[.int .i64 r1, v1_], .bool r3]) ∧ Kd.R (Kd.int .i64) 3 w' w.heap.size (fun _ => True) v1_ r2 ∧ Below w.heap.size w w' := by
 have hu26 := Try.underlying26
 have HR0_1 := Aside0.mk hr0_1
 have HC0_1 := Aside0.mk hc0_1
 clear hr0_1 hc0_1
 have HR1 := Aside0.mk hr1
 have HC1 := Aside0.mk hc1
 clear hr1 hc1
 have HB := Aside0.mk (Below.refl w.heap.size w)
 have H : ((spec_gaTaking.f k a0_0 l0_1).bind fun t1272 => (if t1272 = true then (spec_PlayTakes.j0 k l1 (decide ((l1.length : Int) > (l0_1.length : Int))) a0_0 l0_1) else (spec_PlayTakes.j0 k l1 true a0_0 l0_1))) = some (r1, r2, r3) := h
 clear h
 have HC3 := Aside0.mk H
 clear H
 go_enter Try.func65, Try.ntmps65
 go_upto_region 1 with (first | ((with_reducible refine gate_dst (N := 2) rfl ?_); (try (refine gate_guard (by rfl) ?_; dsimp only)); refine box_event ?hg (N := 2) ?hd (cs := #[.int .i64 a0_0, .slice A0_1 l0_1.length c0_1]) (t := 26) ?hr ?_; (case hd => rfl); (case hg => rfl); (case hr => first | (go_simp; done) | (go_simp; rfl)); intro gb1270 hg w4 hbox hb; have BK1270 := Aside0.mk (hbox); have GW1270 := Aside0.mk ((by rw [hg]; exact (below_size (Bl_ HB)) : w.heap.size ≤ gb1270)); have GE1270 := Aside0.mk ((by rw [hg]; exact (below_size (Bl_ HB)) : w.heap.size ≤ gb1270)); replace HB := Aside0.mk (below_step (Bl_ HB) hb); clear hb hbox hg) | ((with_reducible refine gate_dst (N := 4) rfl ?_); (try (refine gate_guard (by rfl) ?_; dsimp only)); refine box_event ?hg (N := 4) ?hd (cs := #[.int .i64 0, .slice none 0 0]) (t := 26) ?hr ?_; (case hd => rfl); (case hg => rfl); (case hr => first | (go_simp; done) | (go_simp; rfl)); intro gb1271 hg w5 hbox hb; have BK1271 := Aside0.mk (hbox); have GW1271 := Aside0.mk ((by rw [hg]; exact (below_size (Bl_ HB)) : w.heap.size ≤ gb1271)); have GE1271 := Aside0.mk ((by rw [hg]; exact (below_size (Bl_ HB)) : w.heap.size ≤ gb1271)); replace HB := Aside0.mk (below_step (Bl_ HB) hb); have NB1270_1271 := nbl_ BK1270 hg; have NB1271_1270 := nbg_ BK1270 hg; replace BK1270 := blkB_ BK1270 hb; clear hb hbox hg))
 (try simp only [Act.put, List.setIfInBounds_toArray, List.set_cons_zero, List.set_cons_succ])
 go_cut [19] (fun v19 wc => ∃ (kq : Nat) (x19_2 : Bool), v19 = .bool x19_2 ∧ Aside0 (spec_PlayTakes.j0 kq l1 x19_2 a0_0 l0_1 = some (r1, r2, r3)) ∧ Aside0 (kq ≤ k) ∧ Aside0 (wc.heap[gb1270]? = some (.cells #[.int .i64 a0_0, (.slice A0_1 l0_1.length c0_1)] 26 (0, 0))) ∧ Aside0 (wc.heap[gb1271]? = some (.cells #[.int .i64 0, (.slice none 0 0)] 26 (0, 0))) ∧ Aside0 (Below w.heap.size w wc))
 case first =>
  have H := HC3.out
  clear HC3
  replace H := Option.bind_eq_some_iff.mp H
  obtain ⟨t1272, A60, H⟩ := H
  (try dsimp only at H)
  have A6 := Aside0.mk A60
  clear A60
  by_cases c7 : t1272 = true
  ·subst c7
   rw [if_pos rfl] at H
   have H' := Aside0.mk H
   clear H
   have hnb8 := NB1270_1271.out
   have hnc8 := NB1271_1270.out
   have hcz9_0 : w5.cell? ⟨gb1270, 0, none⟩ = some (.int .i64 a0_0) := (blk_cell BK1270.out 0).trans rfl
   have hcz9_1 : w5.cell? ⟨gb1270, 1, none⟩ = some (.slice A0_1 l0_1.length c0_1) := (blk_cell BK1270.out 1).trans rfl
   have hfz9_0 := blk_frozen BK1270.out 0
   have hfz9_1 := blk_frozen BK1270.out 1
   go_wp2_with (first | ((with_reducible refine gate_callee (f := 116) rfl ?_); refine gl_ (some 10) rfl rfl Try.func116 (by kernel_rfl) rfl #[.agg #[.int .i64 a0_0, .slice A0_1 l0_1.length c0_1]] rfl ?_; (with_reducible refine (spec_gaTaking.calls k a0_0 _ _ l0_1 true _ ?side1 ?side2 A6.out).mono ?_); (case side1 => exact Cl_ (Kd.C_below HR0_1.out HB.out)); (case side2 => exact HC0_1.out); rintro e w10 ⟨rfl, hb⟩; refine ⟨_, rfl, ?_⟩; replace BK1270 := blkB_ BK1270 hb; replace BK1271 := blkB_ BK1271 hb; replace HB := Aside0.mk (below_step (Bl_ HB) hb); (try clear hb); (try clear hb2); (try clear hk); (try clear hi); have hcz11_0 : w10.cell? ⟨gb1270, 0, none⟩ = some (.int .i64 a0_0) := (blk_cell BK1270.out 0).trans rfl; have hcz11_1 : w10.cell? ⟨gb1270, 1, none⟩ = some (.slice A0_1 l0_1.length c0_1) := (blk_cell BK1270.out 1).trans rfl; have hfz11_0 := blk_frozen BK1270.out 0; have hfz11_1 := blk_frozen BK1270.out 1))
   go_meet
   case rel => exact ⟨_, (decide ((l1.length : Int) > (l0_1.length : Int))), (by first | rfl | (simp; done) | (simp [*]; done)), H', ⟨by first | omega | exact Nat.le_refl _⟩, ⟨bl_ BK1270⟩, ⟨bl_ BK1271⟩, ⟨Bl_ HB⟩⟩
  replace c7 := Bool.eq_false_iff.mpr c7
  subst c7
  rw [if_neg (show ¬ (false = true) by decide)] at H
  have H' := Aside0.mk H
  clear H
  have hnb12 := NB1270_1271.out
  have hnc12 := NB1271_1270.out
  have hcz13_0 : w5.cell? ⟨gb1270, 0, none⟩ = some (.int .i64 a0_0) := (blk_cell BK1270.out 0).trans rfl
  have hcz13_1 : w5.cell? ⟨gb1270, 1, none⟩ = some (.slice A0_1 l0_1.length c0_1) := (blk_cell BK1270.out 1).trans rfl
  have hfz13_0 := blk_frozen BK1270.out 0
  have hfz13_1 := blk_frozen BK1270.out 1
  go_wp2_with (first | ((with_reducible refine gate_callee (f := 116) rfl ?_); refine gl_ (some 10) rfl rfl Try.func116 (by kernel_rfl) rfl #[.agg #[.int .i64 a0_0, .slice A0_1 l0_1.length c0_1]] rfl ?_; (with_reducible refine (spec_gaTaking.calls k a0_0 _ _ l0_1 false _ ?side1 ?side2 A6.out).mono ?_); (case side1 => exact Cl_ (Kd.C_below HR0_1.out HB.out)); (case side2 => exact HC0_1.out); rintro e w14 ⟨rfl, hb⟩; refine ⟨_, rfl, ?_⟩; replace BK1270 := blkB_ BK1270 hb; replace BK1271 := blkB_ BK1271 hb; replace HB := Aside0.mk (below_step (Bl_ HB) hb); (try clear hb); (try clear hb2); (try clear hk); (try clear hi)))
  go_meet
  case rel => exact ⟨_, (true), (by first | rfl | (simp; done) | (simp [*]; done)), H', ⟨by first | omega | exact Nat.le_refl _⟩, ⟨bl_ BK1270⟩, ⟨bl_ BK1271⟩, ⟨Bl_ HB⟩⟩
 case rest =>
  as_aux_lemma =>
   clear HC3
   try clear c1
   try clear p2
   try clear c6
   try clear c7
   try clear c8
   try clear c11
   try clear c12
   try clear hcz11_0
   try clear hcz11_1
   try clear hcz13_0
   try clear hcz13_1
   try clear hcz9_0
   try clear hcz9_1
   try clear hfz11_0
   try clear hfz11_1
   try clear hfz13_0
   try clear hfz13_1
   try clear hfz9_0
   try clear hfz9_1
   obtain ⟨kq, x19_2, rfl, HA, HJ2, BK1270, BK1271, HB⟩ := hcut
   cases kq with
   | zero => exact absurd HA.out (by simp [spec_PlayTakes.j0])
   | succ kj2 =>
    have H := HA.out
    clear HA
    simp only [spec_PlayTakes.j0] at H
    by_cases c15 : x19_2 = true
    ·subst c15
     rw [if_pos rfl] at H
     simp only [Option.some.injEq, Prod.mk.injEq] at H
     obtain ⟨rfl, rfl, rfl⟩ := H
     have hnb16 := NB1271_1270.out
     have hnc16 := NB1270_1271.out
     have hcz17_0 : wc.cell? ⟨gb1271, 0, none⟩ = some (.int .i64 0) := (blk_cell BK1271.out 0).trans rfl
     have hcz17_1 : wc.cell? ⟨gb1271, 1, none⟩ = some (.slice none 0 0) := (blk_cell BK1271.out 1).trans rfl
     have hfz17_0 := blk_frozen BK1271.out 0
     have hfz17_1 := blk_frozen BK1271.out 1
     go_wp2
     refine bodyPost_ret (results_ct rfl _ _ gb1271 26 #[.int .i64 0, .slice none 0 0] (0, 0) _ rfl (by (with_reducible repeat (first | refine blk_drewN ?_ _ | refine blk_drew ?_ | refine blk_alloc ?_ _)); refine blk_put (cs := #[.int .i64 0, .slice none 0 0]) ?_ 1 _ rfl; (with_reducible repeat (first | refine blk_drewN ?_ _ | refine blk_drew ?_ | refine blk_alloc ?_ _)); refine blk_put (cs := #[.int .i64 0, .slice none 0 0]) ?_ 0 _ rfl; (with_reducible repeat (first | refine blk_drewN ?_ _ | refine blk_drew ?_ | refine blk_alloc ?_ _)); exact BK1271.out) Try.underlying26 rfl (by kernel_rfl)) rfl ?_
     exact ⟨_, by first | rfl | (simp [errW_none, errW_some] <;> rfl) | (simp [*, errW_none, errW_some] <;> rfl), by first | exact Kd.R_nil _ _ _ _ _ | exact Kd.N_nil _ _ _ _ _ | exact Kd.V_nil _ _ _ _ _ | exact Kd.Q_nil _ _ _ _ _ | exact Kd.S_nil _ _ _ _ _, Bl_ HB⟩
    replace c15 := Bool.eq_false_iff.mpr c15
    subst c15
    rw [if_neg (show ¬ (false = true) by decide)] at H
    obtain ⟨ji18, hji18⟩ : ∃ j_ : Int, (shl .i64 1 (l0_1.length : Int)) = j_ := ⟨_, rfl⟩
    replace H : (spec_PlayTakes.l0 kj2 (wrap64 ((ji18) - 1)) l1 (l1.length : Int) 0 a0_0 l0_1) = some (r1, r2, r3) := by first | (rw [hji18] at H; exact H) | (simp only [hji18] at H ⊢; exact H)
    have hji18_ : (IntKind.i64.wrap (1 * 2 ^ min (l0_1.length : Int).toNat 64)) = ji18 := hji18
    have hji18z : (l0_1.length : Int) ≤ 64 → (IntKind.i64.wrap (1 * 2 ^ (l0_1.length : Int).toNat)) = ji18 := shl_small hji18
    have hji18p : (IntKind.i64.wrap (1 * 2 ^ min l0_1.length 64)) = ji18 := hji18_
    have hji18q : (l0_1.length : Int) ≤ 64 → (IntKind.i64.wrap (1 * 2 ^ l0_1.length)) = ji18 := hji18z
    have hji18r : (IntKind.i64.wrap (2 ^ min l0_1.length 64)) = ji18 := by have h_ := hji18p; rw [Int.one_mul] at h_; exact h_
    have hji18s : (l0_1.length : Int) ≤ 64 → (IntKind.i64.wrap (2 ^ l0_1.length)) = ji18 := fun hle_ => by have h_ := hji18q hle_; rw [Int.one_mul] at h_; exact h_
    have hji18u : (IntKind.i64.wrap (2 ^ min (l0_1.length : Int).toNat 64)) = ji18 := by have h_ := hji18_; rw [Int.one_mul] at h_; exact h_
    have hji18v : (l0_1.length : Int) ≤ 64 → (IntKind.i64.wrap (2 ^ (l0_1.length : Int).toNat)) = ji18 := fun hle_ => by have h_ := hji18z hle_; rw [Int.one_mul] at h_; exact h_
    have hji18y : (wrap64 (1 * 2 ^ min (l0_1.length : Int).toNat 64)) = ji18 := (i64_w _).symm.trans hji18_
    have hji18x : (l0_1.length : Int) ≤ 64 → (wrap64 (1 * 2 ^ (l0_1.length : Int).toNat)) = ji18 := fun h_ => (i64_w _).symm.trans (hji18z h_)
    have H' := Aside0.mk H
    clear H
    have hnb19 := NB1270_1271.out
    have hnc19 := NB1271_1270.out
    have hcz20_0 : wc.cell? ⟨gb1270, 0, none⟩ = some (.int .i64 a0_0) := (blk_cell BK1270.out 0).trans rfl
    have hcz20_1 : wc.cell? ⟨gb1270, 1, none⟩ = some (.slice A0_1 l0_1.length c0_1) := (blk_cell BK1270.out 1).trans rfl
    have hfz20_0 := blk_frozen BK1270.out 0
    have hfz20_1 := blk_frozen BK1270.out 1
    go_wp2
    go_loopg [6, 28] kj2 (fun kq v6 v28 w' => ∃ (x6_2 : Int) (x28_2 : Int) (x1272000_2 : Int), v6 = .int .i64 x6_2 ∧ v28 = .int .i64 x28_2 ∧ Aside0 (spec_PlayTakes.l0 kq x6_2 l1 (l1.length : Int) x28_2 a0_0 l0_1 = some (r1, r2, r3)) ∧ Aside0 (kq ≤ kj2) ∧ Aside0 (w'.heap[gb1270]? = some (.cells #[.int .i64 a0_0, (.slice A0_1 l0_1.length c0_1)] 26 (0, 0))) ∧ Aside0 (w'.heap[gb1271]? = some (.cells #[.int .i64 x1272000_2, (.slice none 0 0)] 26 (0, 0))) ∧ Aside0 (Below w.heap.size w w'))
    case atStart => exact ⟨(wrap64 ((ji18) - 1)), (0), (0), (by first | rfl | (simp; done) | (simp only [← hji18] <;> (first | rfl | simp)) | (simp [*]; done)), (by first | rfl | (simp; done) | (simp [*]; done)), H', ⟨Nat.le_refl _⟩, ⟨bl_ BK1270⟩, ⟨bl_ BK1271⟩, ⟨Bl_ HB⟩⟩
    case round =>
     as_aux_lemma =>
      clear H'
      try clear c1
      try clear p2
      try clear c6
      try clear p6
      try clear c7
      try clear c8
      try clear c11
      try clear c12
      try clear c15
      try clear c16
      try clear c19
      try clear hcz11_0
      try clear hcz11_1
      try clear hcz13_0
      try clear hcz13_1
      try clear hcz17_0
      try clear hcz17_1
      try clear hcz20_0
      try clear hcz20_1
      try clear hcz9_0
      try clear hcz9_1
      try clear hfz11_0
      try clear hfz11_1
      try clear hfz13_0
      try clear hfz13_1
      try clear hfz17_0
      try clear hfz17_1
      try clear hfz20_0
      try clear hfz20_1
      try clear hfz9_0
      try clear hfz9_1
      try clear p2
      obtain ⟨x6_2, x28_2, x1272000_2, rfl, rfl, HA, HK2, BK1270, BK1271, HB⟩ := hrel
      cases gk with
      | zero => exact absurd HA.out (by simp [spec_PlayTakes.l0])
      | succ k2 =>
       have H := HA.out
       clear HA
       simp only [spec_PlayTakes.l0] at H
       by_cases c21 : x28_2 < (l1.length : Int)
       ·rw [if_pos c21] at H
        have c21b0 : decide (x28_2 < (l1.length : Int)) = true := decide_eq_true c21
        clear c21
        by_cases c22 : 0 ≤ x28_2
        rotate_left
        ·rw [if_neg c22] at H
         exact absurd H (by simp)
        rw [if_pos c22] at H
        have c22b0 : decide (0 ≤ x28_2) = true := decide_eq_true c22
        clear c22
        by_cases c23 : x28_2 < (l1.length : Int)
        rotate_left
        ·rw [if_neg c23] at H
         exact absurd H (by simp)
        rw [if_pos c23] at H
        have c23b0 : decide (x28_2 < (l1.length : Int)) = true := decide_eq_true c23
        clear c23
        replace H := Option.bind_eq_some_iff.mp H
        obtain ⟨t1277, A240, H⟩ := H
        (try dsimp only at H)
        have A24 := Aside0.mk A240
        clear A240
        by_cases c25 : t1277 = true
        ·as_aux_lemma =>
         subst c25
         rw [if_pos rfl] at H
         by_cases c26 : 0 ≤ (rd l1 x28_2)
         rotate_left
         ·rw [if_neg c26] at H
          exact absurd H (by simp)
         rw [if_pos c26] at H
         have c26b0 := eq_true c26
         have c26b1 : decide (0 ≤ (rd l1 x28_2)) = true := decide_eq_true c26
         clear c26
         obtain ⟨ji27, hji27⟩ : ∃ j_ : Int, (shr .i64 x6_2 (rd l1 x28_2)) = j_ := ⟨_, rfl⟩
         replace H : (if (Int.tmod (ji27) 2) = 0 then (some (0, ([] : List Int), false)) else ((spec_gaLeft.f k2 a0_0 l0_1 x6_2).bind fun t1278 => ((spec_gaHome.f k2 a0_0 t1278).bind fun t1281 => (if t1281 = true then (some (0, ([] : List Int), false)) else (spec_PlayTakes.l0 k2 (Go.bits .andNot .i64 x6_2 (shl .i64 1 (rd l1 x28_2))) l1 (l1.length : Int) (wrap64 (x28_2 + 1)) a0_0 l0_1))))) = some (r1, r2, r3) := by first | (rw [hji27] at H; exact H) | (simp only [hji27] at H ⊢; exact H)
         (try rw [hji27] at A24)
         have hji27_ : (x6_2 / 2 ^ min (rd l1 x28_2).toNat 64) = ji27 := hji27
         have hji27z : (rd l1 x28_2) ≤ 64 → (x6_2 / 2 ^ (rd l1 x28_2).toNat) = ji27 := shr_small hji27
         by_cases c28 : (Int.tmod (ji27) 2) = 0
         ·as_aux_lemma =>
          rw [if_pos c28] at H
          have c28b0 : ((Int.tmod (ji27) 2) == 0) = true := beq_iff_eq.mpr c28
          have c28b1 : ((Int.tmod (ji27) 2) != 0) = false := bne_eq_false_iff_eq.mpr c28
          clear c28
          simp only [Option.some.injEq, Prod.mk.injEq] at H
          obtain ⟨rfl, rfl, rfl⟩ := H
          have p1276 : 0 ≤ (x28_2 : Int) := of_decide_eq_true (by first | (with_reducible assumption) | assumption)
          have q1276 : x28_2 < (l1.length : Int) := of_decide_eq_true (by first | (with_reducible assumption) | assumption)
          obtain ⟨ad1276, e1276, hx1276_0⟩ := Kd.at_int HR1.out x28_2 p1276 q1276
          cases e1276
          replace hx1276_0 := (HB.out.cell (World.block_lt_of_cell? w _ hx1276_0)).trans hx1276_0
          replace p1276 := eq_true p1276
          replace q1276 := eq_true q1276
          try go_wp2
          replace BK1270 := Aside0.mk (blk_drew BK1270.out)
          replace BK1271 := Aside0.mk (blk_drew BK1271.out)
          replace HB := Aside0.mk (below_drew1 HB.out)
          refine start_ (n := 22) (S := fun w' => w'.cell? ⟨gb1270, 0, none⟩ = some (.int .i64 a0_0) ∧ w'.cell? ⟨gb1270, 1, none⟩ = some (.slice A0_1 l0_1.length c0_1)) (ds := []) (fl_ 22 0) (by kernel_rfl) rfl rfl ⟨(blk_cell BK1270.out 0).trans rfl, (blk_cell BK1270.out 1).trans rfl⟩ (fun hHeld => ?_); refine with_tabW spec_PlayTakes.tab7 spec_PlayTakes.bits7 (fun HT_ HW_ => ?_)
          generalize wr.drew = w29 at BK1270 BK1271 HB hHeld ⊢
          refine pure_ (i := 0) (N := some 32) (v := ?_) (a' := ?_) (fl_ 22 1) rfl rfl (any_of HT_.out (by kernel_rfl)) (fun _ _ _ h => h) (Or.inl ⟨by rfl, ?_⟩) ?_ ?_
          rotate_left
          ·intro w'
           go_simp
           with_reducible rfl
          rotate_left
          ·simp only [Act.put, List.setIfInBounds_toArray, List.set_cons_zero, List.set_cons_succ, i64_w, i32_w]
           rfl
          refine pure_ (i := 1) (N := some 33) (v := ?_) (a' := ?_) (fl_ 22 2) rfl rfl (any_of HT_.out (by kernel_rfl)) (fun _ _ _ h => h) (Or.inl ⟨by rfl, ?_⟩) ?_ ?_
          rotate_left
          ·intro w'
           go_simp
           with_reducible rfl
          rotate_left
          ·simp only [Act.put, List.setIfInBounds_toArray, List.set_cons_zero, List.set_cons_succ, i64_w, i32_w]
           rfl
          refine take_ (i := 2) (N := some 34) (v := ?_) (a' := ?_) (fl_ 22 3) rfl rfl (take_ofW HT_.out HW_.out (by kernel_rfl)) (fun _ _ _ h => h) (Or.inl ⟨by rfl, ?_⟩) hHeld ?_ ?_
          rotate_left
          ·rintro w' ⟨s0, s1⟩
           go_simp
           with_reducible rfl
          rotate_left
          ·simp only [Act.put, List.setIfInBounds_toArray, List.set_cons_zero, List.set_cons_succ, i64_w, i32_w]
           rfl
          refine pure_ (i := 3) (N := some 35) (v := ?_) (a' := ?_) (fl_ 22 4) rfl rfl (any_of HT_.out (by kernel_rfl)) (fun _ _ _ h => h) (Or.inl ⟨by rfl, ?_⟩) ?_ ?_
          rotate_left
          ·intro w'
           go_simp
           with_reducible rfl
          rotate_left
          ·simp only [Act.put, List.setIfInBounds_toArray, List.set_cons_zero, List.set_cons_succ, i64_w, i32_w]
           rfl
          refine pure_ (i := 4) (N := some 36) (v := ?_) (a' := ?_) (fl_ 22 5) rfl rfl (any_of HT_.out (by kernel_rfl)) (fun _ _ _ h => h) (Or.inl ⟨by rfl, ?_⟩) ?_ ?_
          rotate_left
          ·intro w'
           go_simp
           with_reducible rfl
          rotate_left
          ·simp only [Act.put, List.setIfInBounds_toArray, List.set_cons_zero, List.set_cons_succ, i64_w, i32_w]
           rfl
          refine one_ (i := 5) (N := some 37) (fl_ 22 6) rfl rfl (one_of HT_.out (by kernel_rfl)) (by decide) (fun K hK => ?_)
          refine gs_ Try.func90 (by kernel_rfl) rfl #[.int .i64 (rd l1 x28_2), .int .i64 0, .int .i64 (wrap64 ((l0_1.length : Int) - 1))] (by rfl) rfl rfl ?_
          with_reducible refine (spec_l1In.calls (rd l1 x28_2) 0 (wrap64 ((l0_1.length : Int) - 1)) true _ A24.out).mono ?_
          rintro e w' ⟨rfl, ⟨nd, rfl⟩⟩
          refine ⟨_, rfl, ?_⟩
          refine hK.out _ _ ⟨(blk_cell BK1270.out 0).trans rfl, (blk_cell BK1270.out 1).trans rfl⟩ (fun hHeld => ?_)
          clear hK K
          refine norm_ (a' := ?_) ?_ ?_
          rotate_left
          ·show Act.put _ (some 37) _ = _
           simp only [Act.put, List.setIfInBounds_toArray, List.set_cons_zero, List.set_cons_succ, i64_w, i32_w]
           rfl
          refine pure_ (i := 6) (N := some 38) (v := ?_) (a' := ?_) (fl_ 22 7) rfl rfl (any_of HT_.out (by kernel_rfl)) (fun _ _ _ h => h) (Or.inl ⟨by rfl, ?_⟩) ?_ ?_
          rotate_left
          ·intro w'
           go_simp
           with_reducible rfl
          rotate_left
          ·simp only [Act.put, List.setIfInBounds_toArray, List.set_cons_zero, List.set_cons_succ, i64_w, i32_w]
           rfl
          refine pure_ (i := 7) (N := some 39) (v := ?_) (a' := ?_) (fl_ 22 8) rfl rfl (any_of HT_.out (by kernel_rfl)) (fun _ _ _ h => h) (Or.inl ⟨by rfl, ?_⟩) ?_ ?_
          rotate_left
          ·intro w'
           go_simp
           with_reducible rfl
          rotate_left
          ·simp only [Act.put, List.setIfInBounds_toArray, List.set_cons_zero, List.set_cons_succ, i64_w, i32_w]
           rfl
          refine pure_ (i := 8) (N := some 40) (v := ?_) (a' := ?_) (fl_ 22 9) rfl rfl (any_of HT_.out (by kernel_rfl)) (fun _ _ _ h => h) (Or.inl ⟨by rfl, ?_⟩) ?_ ?_
          rotate_left
          ·intro w'
           go_simp
           with_reducible rfl
          rotate_left
          ·simp only [Act.put, List.setIfInBounds_toArray, List.set_cons_zero, List.set_cons_succ, i64_w, i32_w]
           rfl
          refine pure_ (i := 9) (N := some 41) (v := ?_) (a' := ?_) (fl_ 22 10) rfl rfl (any_of HT_.out (by kernel_rfl)) (fun _ _ _ h => h) (Or.inl ⟨by rfl, ?_⟩) ?_ ?_
          rotate_left
          ·intro w'
           go_simp
           with_reducible rfl
          rotate_left
          ·simp only [Act.put, List.setIfInBounds_toArray, List.set_cons_zero, List.set_cons_succ, i64_w, i32_w]
           rfl
          refine pure_ (i := 10) (N := some 42) (v := ?_) (a' := ?_) (fl_ 22 11) rfl rfl (any_of HT_.out (by kernel_rfl)) (fun _ _ _ h => h) (Or.inl ⟨by rfl, ?_⟩) ?_ ?_
          rotate_left
          ·intro w'
           go_simp
           with_reducible rfl
          rotate_left
          ·simp only [Act.put, List.setIfInBounds_toArray, List.set_cons_zero, List.set_cons_succ, i64_w, i32_w]
           rfl
          refine pure_ (i := 11) (N := some 43) (v := ?_) (a' := ?_) (fl_ 22 12) rfl rfl (any_of HT_.out (by kernel_rfl)) (fun _ _ _ h => h) (Or.inl ⟨by rfl, ?_⟩) ?_ ?_
          rotate_left
          ·intro w'
           go_simp
           with_reducible rfl
          rotate_left
          ·simp only [Act.put, List.setIfInBounds_toArray, List.set_cons_zero, List.set_cons_succ, i64_w, i32_w]
           rfl
          refine pure_ (i := 12) (N := some 44) (v := ?_) (a' := ?_) (fl_ 22 13) rfl rfl (any_of HT_.out (by kernel_rfl)) (fun _ _ _ h => h) (Or.inl ⟨by rfl, ?_⟩) ?_ ?_
          rotate_left
          ·intro w'
           go_simp
           with_reducible rfl
          rotate_left
          ·simp only [Act.put, List.setIfInBounds_toArray, List.set_cons_zero, List.set_cons_succ, i64_w, i32_w]
           rfl
          refine pure_ (i := 13) (N := some 45) (v := ?_) (a' := ?_) (fl_ 22 14) rfl rfl (any_of HT_.out (by kernel_rfl)) (fun _ _ _ h => h) (Or.inl ⟨by rfl, ?_⟩) ?_ ?_
          rotate_left
          ·intro w'
           go_simp
           with_reducible rfl
          rotate_left
          ·simp only [Act.put, List.setIfInBounds_toArray, List.set_cons_zero, List.set_cons_succ, i64_w, i32_w]
           rfl
          refine pure_ (i := 14) (N := some 46) (v := ?_) (a' := ?_) (fl_ 22 15) rfl rfl (any_of HT_.out (by kernel_rfl)) (fun _ _ _ h => h) (Or.inl ⟨by rfl, ?_⟩) ?_ ?_
          rotate_left
          ·intro w'
           go_simp
           with_reducible rfl
          rotate_left
          ·simp only [Act.put, List.setIfInBounds_toArray, List.set_cons_zero, List.set_cons_succ, i64_w, i32_w]
           rfl
          refine pure_ (i := 15) (N := some 47) (v := undef) (a' := ?_) (fl_ 22 16) rfl rfl (any_of HT_.out (by kernel_rfl)) (fun _ _ _ h => h) (Or.inr ⟨by rfl, rfl⟩) ?_ ?_
          rotate_left
          ·simp only [Act.put, List.setIfInBounds_toArray, List.set_cons_zero, List.set_cons_succ, i64_w, i32_w]
           rfl
          refine pure_ (i := 16) (N := some 48) (v := undef) (a' := ?_) (fl_ 22 17) rfl rfl (any_of HT_.out (by kernel_rfl)) (fun _ _ _ h => h) (Or.inr ⟨by rfl, rfl⟩) ?_ ?_
          rotate_left
          ·simp only [Act.put, List.setIfInBounds_toArray, List.set_cons_zero, List.set_cons_succ, i64_w, i32_w]
           rfl
          refine pure_ (i := 17) (N := some 49) (v := undef) (a' := ?_) (fl_ 22 18) rfl rfl (any_of HT_.out (by kernel_rfl)) (fun _ _ _ h => h) (Or.inr ⟨by rfl, rfl⟩) ?_ ?_
          rotate_left
          ·simp only [Act.put, List.setIfInBounds_toArray, List.set_cons_zero, List.set_cons_succ, i64_w, i32_w]
           rfl
          refine pure_ (i := 18) (N := some 50) (v := undef) (a' := ?_) (fl_ 22 19) rfl rfl (any_of HT_.out (by kernel_rfl)) (fun _ _ _ h => h) (Or.inr ⟨by rfl, rfl⟩) ?_ ?_
          rotate_left
          ·simp only [Act.put, List.setIfInBounds_toArray, List.set_cons_zero, List.set_cons_succ, i64_w, i32_w]
           rfl
          refine pure_ (i := 19) (N := some 51) (v := undef) (a' := ?_) (fl_ 22 20) rfl rfl (any_of HT_.out (by kernel_rfl)) (fun _ _ _ h => h) (Or.inr ⟨by rfl, rfl⟩) ?_ ?_
          rotate_left
          ·simp only [Act.put, List.setIfInBounds_toArray, List.set_cons_zero, List.set_cons_succ, i64_w, i32_w]
           rfl
          refine pure_ (i := 20) (N := some 52) (v := undef) (a' := ?_) (fl_ 22 21) rfl rfl (any_of HT_.out (by kernel_rfl)) (fun _ _ _ h => h) (Or.inr ⟨by rfl, rfl⟩) ?_ ?_
          rotate_left
          ·simp only [Act.put, List.setIfInBounds_toArray, List.set_cons_zero, List.set_cons_succ, i64_w, i32_w]
           rfl
          refine pure_ (i := 21) (N := some 53) (v := ?_) (a' := ?_) (fl_ 22 22) rfl rfl (any_of HT_.out (by kernel_rfl)) (fun _ _ _ h => h) (Or.inl ⟨by rfl, ?_⟩) ?_ ?_
          rotate_left
          ·intro w'
           go_simp
           with_reducible rfl
          rotate_left
          ·simp only [Act.put, List.setIfInBounds_toArray, List.set_cons_zero, List.set_cons_succ, i64_w, i32_w]
           rfl
          refine done_ (done_of HT_.out (by kernel_rfl)) ?_
          have hnb30 := NB1271_1270.out
          have hnc30 := NB1270_1271.out
          have hcz31_0 : w29.cell? ⟨gb1271, 0, none⟩ = some (.int .i64 x1272000_2) := (blk_cell BK1271.out 0).trans rfl
          have hcz31_1 : w29.cell? ⟨gb1271, 1, none⟩ = some (.slice none 0 0) := (blk_cell BK1271.out 1).trans rfl
          have hfz31_0 := blk_frozen BK1271.out 0
          have hfz31_1 := blk_frozen BK1271.out 1
          try go_wp2
          refine bodyPost_ret (results_ct rfl _ _ gb1271 26 #[.int .i64 0, .slice none 0 0] (0, 0) _ rfl (by (with_reducible repeat (first | refine blk_drewN ?_ _ | refine blk_drew ?_ | refine blk_alloc ?_ _)); refine blk_put (cs := #[.int .i64 0, .slice none 0 0]) ?_ 1 _ rfl; (with_reducible repeat (first | refine blk_drewN ?_ _ | refine blk_drew ?_ | refine blk_alloc ?_ _)); refine blk_put (cs := #[.int .i64 x1272000_2, .slice none 0 0]) ?_ 0 _ rfl; (with_reducible repeat (first | refine blk_drewN ?_ _ | refine blk_drew ?_ | refine blk_alloc ?_ _)); exact BK1271.out) Try.underlying26 rfl (by kernel_rfl)) rfl ?_
          exact ⟨_, by first | rfl | (simp [errW_none, errW_some] <;> rfl) | (simp only [← hji18, ← hji27]; first | rfl | (simp [errW_none, errW_some] <;> rfl)) | (simp [*, errW_none, errW_some] <;> rfl), by first | exact Kd.R_nil _ _ _ _ _ | exact Kd.N_nil _ _ _ _ _ | exact Kd.V_nil _ _ _ _ _ | exact Kd.Q_nil _ _ _ _ _ | exact Kd.S_nil _ _ _ _ _, Bl_ HB⟩
         as_aux_lemma =>
          rw [if_neg c28] at H
          have c28b0 : ((Int.tmod (ji27) 2) == 0) = false := beq_eq_false_iff_ne.mpr c28
          have c28b1 : ((Int.tmod (ji27) 2) != 0) = true := bne_iff_ne.mpr c28
          replace H := Option.bind_eq_some_iff.mp H
          obtain ⟨t1278, A320, H⟩ := H
          (try dsimp only at H)
          have A32 := Aside0.mk A320
          clear A320
          replace H := Option.bind_eq_some_iff.mp H
          obtain ⟨t1281, A330, H⟩ := H
          (try dsimp only at H)
          have A33 := Aside0.mk A330
          clear A330
          by_cases c34 : t1281 = true
          ·as_aux_lemma =>
           subst c34
           rw [if_pos rfl] at H
           simp only [Option.some.injEq, Prod.mk.injEq] at H
           obtain ⟨rfl, rfl, rfl⟩ := H
           have p1276 : 0 ≤ (x28_2 : Int) := of_decide_eq_true (by first | (with_reducible assumption) | assumption)
           have q1276 : x28_2 < (l1.length : Int) := of_decide_eq_true (by first | (with_reducible assumption) | assumption)
           obtain ⟨ad1276, e1276, hx1276_0⟩ := Kd.at_int HR1.out x28_2 p1276 q1276
           cases e1276
           replace hx1276_0 := (HB.out.cell (World.block_lt_of_cell? w _ hx1276_0)).trans hx1276_0
           replace p1276 := eq_true p1276
           replace q1276 := eq_true q1276
           try go_wp2
           replace BK1270 := Aside0.mk (blk_drew BK1270.out)
           replace BK1271 := Aside0.mk (blk_drew BK1271.out)
           replace HB := Aside0.mk (below_drew1 HB.out)
           refine start_ (n := 22) (S := fun w' => w'.cell? ⟨gb1270, 0, none⟩ = some (.int .i64 a0_0) ∧ w'.cell? ⟨gb1270, 1, none⟩ = some (.slice A0_1 l0_1.length c0_1)) (ds := []) (fl_ 22 0) (by kernel_rfl) rfl rfl ⟨(blk_cell BK1270.out 0).trans rfl, (blk_cell BK1270.out 1).trans rfl⟩ (fun hHeld => ?_); refine with_tabW spec_PlayTakes.tab7 spec_PlayTakes.bits7 (fun HT_ HW_ => ?_)
           generalize wr.drew = w35 at BK1270 BK1271 HB hHeld ⊢
           refine pure_ (i := 0) (N := some 32) (v := ?_) (a' := ?_) (fl_ 22 1) rfl rfl (any_of HT_.out (by kernel_rfl)) (fun _ _ _ h => h) (Or.inl ⟨by rfl, ?_⟩) ?_ ?_
           rotate_left
           ·intro w'
            go_simp
            with_reducible rfl
           rotate_left
           ·simp only [Act.put, List.setIfInBounds_toArray, List.set_cons_zero, List.set_cons_succ, i64_w, i32_w]
            rfl
           refine pure_ (i := 1) (N := some 33) (v := ?_) (a' := ?_) (fl_ 22 2) rfl rfl (any_of HT_.out (by kernel_rfl)) (fun _ _ _ h => h) (Or.inl ⟨by rfl, ?_⟩) ?_ ?_
           rotate_left
           ·intro w'
            go_simp
            with_reducible rfl
           rotate_left
           ·simp only [Act.put, List.setIfInBounds_toArray, List.set_cons_zero, List.set_cons_succ, i64_w, i32_w]
            rfl
           refine take_ (i := 2) (N := some 34) (v := ?_) (a' := ?_) (fl_ 22 3) rfl rfl (take_ofW HT_.out HW_.out (by kernel_rfl)) (fun _ _ _ h => h) (Or.inl ⟨by rfl, ?_⟩) hHeld ?_ ?_
           rotate_left
           ·rintro w' ⟨s0, s1⟩
            go_simp
            with_reducible rfl
           rotate_left
           ·simp only [Act.put, List.setIfInBounds_toArray, List.set_cons_zero, List.set_cons_succ, i64_w, i32_w]
            rfl
           refine pure_ (i := 3) (N := some 35) (v := ?_) (a' := ?_) (fl_ 22 4) rfl rfl (any_of HT_.out (by kernel_rfl)) (fun _ _ _ h => h) (Or.inl ⟨by rfl, ?_⟩) ?_ ?_
           rotate_left
           ·intro w'
            go_simp
            with_reducible rfl
           rotate_left
           ·simp only [Act.put, List.setIfInBounds_toArray, List.set_cons_zero, List.set_cons_succ, i64_w, i32_w]
            rfl
           refine pure_ (i := 4) (N := some 36) (v := ?_) (a' := ?_) (fl_ 22 5) rfl rfl (any_of HT_.out (by kernel_rfl)) (fun _ _ _ h => h) (Or.inl ⟨by rfl, ?_⟩) ?_ ?_
           rotate_left
           ·intro w'
            go_simp
            with_reducible rfl
           rotate_left
           ·simp only [Act.put, List.setIfInBounds_toArray, List.set_cons_zero, List.set_cons_succ, i64_w, i32_w]
            rfl
           refine one_ (i := 5) (N := some 37) (fl_ 22 6) rfl rfl (one_of HT_.out (by kernel_rfl)) (by decide) (fun K hK => ?_)
           refine gs_ Try.func90 (by kernel_rfl) rfl #[.int .i64 (rd l1 x28_2), .int .i64 0, .int .i64 (wrap64 ((l0_1.length : Int) - 1))] (by rfl) rfl rfl ?_
           with_reducible refine (spec_l1In.calls (rd l1 x28_2) 0 (wrap64 ((l0_1.length : Int) - 1)) true _ A24.out).mono ?_
           rintro e w' ⟨rfl, ⟨nd, rfl⟩⟩
           refine ⟨_, rfl, ?_⟩
           refine hK.out _ _ ⟨(blk_cell BK1270.out 0).trans rfl, (blk_cell BK1270.out 1).trans rfl⟩ (fun hHeld => ?_)
           clear hK K
           refine norm_ (a' := ?_) ?_ ?_
           rotate_left
           ·show Act.put _ (some 37) _ = _
            simp only [Act.put, List.setIfInBounds_toArray, List.set_cons_zero, List.set_cons_succ, i64_w, i32_w]
            rfl
           refine pure_ (i := 6) (N := some 38) (v := ?_) (a' := ?_) (fl_ 22 7) rfl rfl (any_of HT_.out (by kernel_rfl)) (fun _ _ _ h => h) (Or.inl ⟨by rfl, ?_⟩) ?_ ?_
           rotate_left
           ·intro w'
            go_simp
            with_reducible rfl
           rotate_left
           ·simp only [Act.put, List.setIfInBounds_toArray, List.set_cons_zero, List.set_cons_succ, i64_w, i32_w]
            rfl
           refine pure_ (i := 7) (N := some 39) (v := ?_) (a' := ?_) (fl_ 22 8) rfl rfl (any_of HT_.out (by kernel_rfl)) (fun _ _ _ h => h) (Or.inl ⟨by rfl, ?_⟩) ?_ ?_
           rotate_left
           ·intro w'
            go_simp
            with_reducible rfl
           rotate_left
           ·simp only [Act.put, List.setIfInBounds_toArray, List.set_cons_zero, List.set_cons_succ, i64_w, i32_w]
            rfl
           refine pure_ (i := 8) (N := some 40) (v := ?_) (a' := ?_) (fl_ 22 9) rfl rfl (any_of HT_.out (by kernel_rfl)) (fun _ _ _ h => h) (Or.inl ⟨by rfl, ?_⟩) ?_ ?_
           rotate_left
           ·intro w'
            go_simp
            with_reducible rfl
           rotate_left
           ·simp only [Act.put, List.setIfInBounds_toArray, List.set_cons_zero, List.set_cons_succ, i64_w, i32_w]
            rfl
           refine pure_ (i := 9) (N := some 41) (v := ?_) (a' := ?_) (fl_ 22 10) rfl rfl (any_of HT_.out (by kernel_rfl)) (fun _ _ _ h => h) (Or.inl ⟨by rfl, ?_⟩) ?_ ?_
           rotate_left
           ·intro w'
            go_simp
            with_reducible rfl
           rotate_left
           ·simp only [Act.put, List.setIfInBounds_toArray, List.set_cons_zero, List.set_cons_succ, i64_w, i32_w]
            rfl
           refine pure_ (i := 10) (N := some 42) (v := ?_) (a' := ?_) (fl_ 22 11) rfl rfl (any_of HT_.out (by kernel_rfl)) (fun _ _ _ h => h) (Or.inl ⟨by rfl, ?_⟩) ?_ ?_
           rotate_left
           ·intro w'
            go_simp
            with_reducible rfl
           rotate_left
           ·simp only [Act.put, List.setIfInBounds_toArray, List.set_cons_zero, List.set_cons_succ, i64_w, i32_w]
            rfl
           refine pure_ (i := 11) (N := some 43) (v := ?_) (a' := ?_) (fl_ 22 12) rfl rfl (any_of HT_.out (by kernel_rfl)) (fun _ _ _ h => h) (Or.inl ⟨by rfl, ?_⟩) ?_ ?_
           rotate_left
           ·intro w'
            go_simp
            with_reducible rfl
           rotate_left
           ·simp only [Act.put, List.setIfInBounds_toArray, List.set_cons_zero, List.set_cons_succ, i64_w, i32_w]
            rfl
           refine pure_ (i := 12) (N := some 44) (v := ?_) (a' := ?_) (fl_ 22 13) rfl rfl (any_of HT_.out (by kernel_rfl)) (fun _ _ _ h => h) (Or.inl ⟨by rfl, ?_⟩) ?_ ?_
           rotate_left
           ·intro w'
            go_simp
            with_reducible rfl
           rotate_left
           ·simp only [Act.put, List.setIfInBounds_toArray, List.set_cons_zero, List.set_cons_succ, i64_w, i32_w]
            rfl
           refine pure_ (i := 13) (N := some 45) (v := ?_) (a' := ?_) (fl_ 22 14) rfl rfl (any_of HT_.out (by kernel_rfl)) (fun _ _ _ h => h) (Or.inl ⟨by rfl, ?_⟩) ?_ ?_
           rotate_left
           ·intro w'
            go_simp
            with_reducible rfl
           rotate_left
           ·simp only [Act.put, List.setIfInBounds_toArray, List.set_cons_zero, List.set_cons_succ, i64_w, i32_w]
            rfl
           refine pure_ (i := 14) (N := some 46) (v := ?_) (a' := ?_) (fl_ 22 15) rfl rfl (any_of HT_.out (by kernel_rfl)) (fun _ _ _ h => h) (Or.inl ⟨by rfl, ?_⟩) ?_ ?_
           rotate_left
           ·intro w'
            go_simp
            with_reducible rfl
           rotate_left
           ·simp only [Act.put, List.setIfInBounds_toArray, List.set_cons_zero, List.set_cons_succ, i64_w, i32_w]
            rfl
           refine pure_ (i := 15) (N := some 47) (v := ?_) (a' := ?_) (fl_ 22 16) rfl rfl (any_of HT_.out (by kernel_rfl)) (fun _ _ _ h => h) (Or.inl ⟨by rfl, ?_⟩) ?_ ?_
           rotate_left
           ·intro w'
            go_simp
            with_reducible rfl
           rotate_left
           ·simp only [Act.put, List.setIfInBounds_toArray, List.set_cons_zero, List.set_cons_succ, i64_w, i32_w]
            rfl
           refine pure_ (i := 18) (N := some 50) (v := ?_) (a' := ?_) #[true, true, true, true, true, true, true, true, true, true, true, true, true, true, true, true, false, false, true, false, false, false] rfl rfl (any_of HT_.out (by kernel_rfl)) (fun _ _ _ h => h) (Or.inl ⟨by rfl, ?_⟩) ?_ ?_
           rotate_left
           ·intro w'
            go_simp
            with_reducible rfl
           rotate_left
           ·simp only [Act.put, List.setIfInBounds_toArray, List.set_cons_zero, List.set_cons_succ, i64_w, i32_w]
            rfl
           refine take_ (i := 16) (N := some 48) (v := ?_) (a' := ?_) #[true, true, true, true, true, true, true, true, true, true, true, true, true, true, true, true, true, false, true, false, false, false] rfl rfl (take_ofW HT_.out HW_.out (by kernel_rfl)) (fun _ _ _ h => h) (Or.inl ⟨by rfl, ?_⟩) hHeld ?_ ?_
           rotate_left
           ·rintro w' ⟨s0, s1⟩
            go_simp
            with_reducible rfl
           rotate_left
           ·simp only [Act.put, List.setIfInBounds_toArray, List.set_cons_zero, List.set_cons_succ, i64_w, i32_w]
            rfl
           refine take_ (i := 17) (N := some 49) (v := ?_) (a' := ?_) (fl_ 22 19) rfl rfl (take_ofW HT_.out HW_.out (by kernel_rfl)) (fun _ _ _ h => h) (Or.inl ⟨by rfl, ?_⟩) hHeld ?_ ?_
           rotate_left
           ·rintro w' ⟨s0, s1⟩
            go_simp
            with_reducible rfl
           rotate_left
           ·simp only [Act.put, List.setIfInBounds_toArray, List.set_cons_zero, List.set_cons_succ, i64_w, i32_w]
            rfl
           refine one_ (i := 19) (N := some 51) (fl_ 22 20) rfl rfl (one_of HT_.out (by kernel_rfl)) (by decide) (fun K hK => ?_)
           refine gs_ Try.func122 (by kernel_rfl) rfl #[.agg #[.int .i64 a0_0, .slice A0_1 l0_1.length c0_1], .int .i64 x6_2] (by rfl) rfl rfl ?_
           with_reducible refine (spec_gaLeft.calls k2 a0_0 _ _ l0_1 x6_2 t1278 _ ?side1 ?side2 A32.out).mono ?_
           (case side1 => exact Cl_ (Kd.C_below HR0_1.out (Bl_ HB)))
           (case side2 => exact HC0_1.out)
           rintro e w36 ⟨v1279, rfl, ho0, hb⟩
           refine ⟨_, rfl, ?_⟩
           have HO1280 := Aside0.mk (Kd.R_lower ho0 (below_size (Bl_ HB)))
           replace BK1270 := blkB_ BK1270 hb
           replace BK1271 := blkB_ BK1271 hb
           replace HB := Aside0.mk (below_step (Bl_ HB) hb)
           (try clear hb); (try clear hb2); (try clear hk); (try clear hi); (try clear ho0)
           obtain ⟨Ao37, co37, eo37⟩ := Kd.R_slice HO1280.out
           (first | subst eo37 | (injection eo37 with f1_ f2_ f3_; have f4_ := f1_.symm; have f5_ := f3_.symm; clear f1_ f2_ f3_; subst f4_; subst f5_))
           refine hK.out _ _ ⟨(blk_cell BK1270.out 0).trans rfl, (blk_cell BK1270.out 1).trans rfl⟩ (fun hHeld => ?_)
           clear hK K
           refine norm_ (a' := ?_) ?_ ?_
           rotate_left
           ·show Act.put _ (some 51) _ = _
            simp only [Act.put, List.setIfInBounds_toArray, List.set_cons_zero, List.set_cons_succ, i64_w, i32_w]
            rfl
           refine one_ (i := 20) (N := some 52) (fl_ 22 21) rfl rfl (one_of HT_.out (by kernel_rfl)) (by decide) (fun K hK => ?_)
           refine gs_ Try.func121 (by kernel_rfl) rfl #[.int .i64 a0_0, .slice Ao37 t1278.length co37] (by rfl) rfl rfl ?_
           with_reducible refine (spec_gaHome.calls k2 a0_0 _ _ t1278 true _ ?side1 ?side2 A33.out).mono ?_
           (case side1 => exact Cl_ (Kd.R_reads' HO1280.out).2.2)
           (case side2 => exact (Kd.R_reads' HO1280.out).2.1)
           rintro e w38 ⟨rfl, hb⟩
           refine ⟨_, rfl, ?_⟩
           replace HO1280 := Aside0.mk (Kd.R_below (Rl_ HO1280.out) hb)
           replace BK1270 := blkB_ BK1270 hb
           replace BK1271 := blkB_ BK1271 hb
           replace HB := Aside0.mk (below_step (Bl_ HB) hb)
           (try clear hb); (try clear hb2); (try clear hk); (try clear hi); (try clear ho0)
           refine hK.out _ _ ⟨(blk_cell BK1270.out 0).trans rfl, (blk_cell BK1270.out 1).trans rfl⟩ (fun hHeld => ?_)
           clear hK K
           refine norm_ (a' := ?_) ?_ ?_
           rotate_left
           ·show Act.put _ (some 52) _ = _
            simp only [Act.put, List.setIfInBounds_toArray, List.set_cons_zero, List.set_cons_succ, i64_w, i32_w]
            rfl
           refine pure_ (i := 21) (N := some 53) (v := ?_) (a' := ?_) (fl_ 22 22) rfl rfl (any_of HT_.out (by kernel_rfl)) (fun _ _ _ h => h) (Or.inl ⟨by rfl, ?_⟩) ?_ ?_
           rotate_left
           ·intro w'
            go_simp
            with_reducible rfl
           rotate_left
           ·simp only [Act.put, List.setIfInBounds_toArray, List.set_cons_zero, List.set_cons_succ, i64_w, i32_w]
            rfl
           refine done_ (done_of HT_.out (by kernel_rfl)) ?_
           have hnb39 := NB1271_1270.out
           have hnc39 := NB1270_1271.out
           have hcz40_0 : w38.cell? ⟨gb1271, 0, none⟩ = some (.int .i64 x1272000_2) := (blk_cell BK1271.out 0).trans rfl
           have hcz40_1 : w38.cell? ⟨gb1271, 1, none⟩ = some (.slice none 0 0) := (blk_cell BK1271.out 1).trans rfl
           have hfz40_0 := blk_frozen BK1271.out 0
           have hfz40_1 := blk_frozen BK1271.out 1
           try go_wp2
           refine bodyPost_ret (results_ct rfl _ _ gb1271 26 #[.int .i64 0, .slice none 0 0] (0, 0) _ rfl (by (with_reducible repeat (first | refine blk_drewN ?_ _ | refine blk_drew ?_ | refine blk_alloc ?_ _)); refine blk_put (cs := #[.int .i64 0, .slice none 0 0]) ?_ 1 _ rfl; (with_reducible repeat (first | refine blk_drewN ?_ _ | refine blk_drew ?_ | refine blk_alloc ?_ _)); refine blk_put (cs := #[.int .i64 x1272000_2, .slice none 0 0]) ?_ 0 _ rfl; (with_reducible repeat (first | refine blk_drewN ?_ _ | refine blk_drew ?_ | refine blk_alloc ?_ _)); exact BK1271.out) Try.underlying26 rfl (by kernel_rfl)) rfl ?_
           exact ⟨_, by first | rfl | (simp [errW_none, errW_some] <;> rfl) | (simp only [← hji18, ← hji27]; first | rfl | (simp [errW_none, errW_some] <;> rfl)) | (simp [*, errW_none, errW_some] <;> rfl), by first | exact Kd.R_nil _ _ _ _ _ | exact Kd.N_nil _ _ _ _ _ | exact Kd.V_nil _ _ _ _ _ | exact Kd.Q_nil _ _ _ _ _ | exact Kd.S_nil _ _ _ _ _, Bl_ HB⟩
          as_aux_lemma =>
           replace c34 := Bool.eq_false_iff.mpr c34
           subst c34
           rw [if_neg (show ¬ (false = true) by decide)] at H
           have c41b0 := eq_true (of_decide_eq_true (by first | (with_reducible assumption) | assumption) : 0 ≤ (rd l1 x28_2))
           obtain ⟨ji42, hji42⟩ : ∃ j_ : Int, (shl .i64 1 (rd l1 x28_2)) = j_ := ⟨_, rfl⟩
           replace H : (spec_PlayTakes.l0 k2 (Go.bits .andNot .i64 x6_2 (ji42)) l1 (l1.length : Int) (wrap64 (x28_2 + 1)) a0_0 l0_1) = some (r1, r2, r3) := by first | (rw [hji42] at H; exact H) | (simp only [hji42] at H ⊢; exact H)
           (try rw [hji42] at A24)
           (try rw [hji42] at A32)
           (try rw [hji42] at A33)
           have hji42_ : (IntKind.i64.wrap (1 * 2 ^ min (rd l1 x28_2).toNat 64)) = ji42 := hji42
           have hji42z : (rd l1 x28_2) ≤ 64 → (IntKind.i64.wrap (1 * 2 ^ (rd l1 x28_2).toNat)) = ji42 := shl_small hji42
           have hji42u : (IntKind.i64.wrap (2 ^ min (rd l1 x28_2).toNat 64)) = ji42 := by have h_ := hji42_; rw [Int.one_mul] at h_; exact h_
           have hji42v : (rd l1 x28_2) ≤ 64 → (IntKind.i64.wrap (2 ^ (rd l1 x28_2).toNat)) = ji42 := fun hle_ => by have h_ := hji42z hle_; rw [Int.one_mul] at h_; exact h_
           have hji42y : (wrap64 (1 * 2 ^ min (rd l1 x28_2).toNat 64)) = ji42 := (i64_w _).symm.trans hji42_
           have hji42x : (rd l1 x28_2) ≤ 64 → (wrap64 (1 * 2 ^ (rd l1 x28_2).toNat)) = ji42 := fun h_ => (i64_w _).symm.trans (hji42z h_)
           have H' := Aside0.mk H
           clear H
           have p1276 : 0 ≤ (x28_2 : Int) := of_decide_eq_true (by first | (with_reducible assumption) | assumption)
           have q1276 : x28_2 < (l1.length : Int) := of_decide_eq_true (by first | (with_reducible assumption) | assumption)
           obtain ⟨ad1276, e1276, hx1276_0⟩ := Kd.at_int HR1.out x28_2 p1276 q1276
           cases e1276
           replace hx1276_0 := (HB.out.cell (World.block_lt_of_cell? w _ hx1276_0)).trans hx1276_0
           replace p1276 := eq_true p1276
           replace q1276 := eq_true q1276
           try go_wp2
           replace BK1270 := Aside0.mk (blk_drew BK1270.out)
           replace BK1271 := Aside0.mk (blk_drew BK1271.out)
           replace HB := Aside0.mk (below_drew1 HB.out)
           refine start_ (n := 22) (S := fun w' => w'.cell? ⟨gb1270, 0, none⟩ = some (.int .i64 a0_0) ∧ w'.cell? ⟨gb1270, 1, none⟩ = some (.slice A0_1 l0_1.length c0_1)) (ds := []) (fl_ 22 0) (by kernel_rfl) rfl rfl ⟨(blk_cell BK1270.out 0).trans rfl, (blk_cell BK1270.out 1).trans rfl⟩ (fun hHeld => ?_); refine with_tabW spec_PlayTakes.tab7 spec_PlayTakes.bits7 (fun HT_ HW_ => ?_)
           generalize wr.drew = w43 at BK1270 BK1271 HB hHeld ⊢
           refine pure_ (i := 0) (N := some 32) (v := ?_) (a' := ?_) (fl_ 22 1) rfl rfl (any_of HT_.out (by kernel_rfl)) (fun _ _ _ h => h) (Or.inl ⟨by rfl, ?_⟩) ?_ ?_
           rotate_left
           ·intro w'
            go_simp
            with_reducible rfl
           rotate_left
           ·simp only [Act.put, List.setIfInBounds_toArray, List.set_cons_zero, List.set_cons_succ, i64_w, i32_w]
            rfl
           refine pure_ (i := 1) (N := some 33) (v := ?_) (a' := ?_) (fl_ 22 2) rfl rfl (any_of HT_.out (by kernel_rfl)) (fun _ _ _ h => h) (Or.inl ⟨by rfl, ?_⟩) ?_ ?_
           rotate_left
           ·intro w'
            go_simp
            with_reducible rfl
           rotate_left
           ·simp only [Act.put, List.setIfInBounds_toArray, List.set_cons_zero, List.set_cons_succ, i64_w, i32_w]
            rfl
           refine take_ (i := 2) (N := some 34) (v := ?_) (a' := ?_) (fl_ 22 3) rfl rfl (take_ofW HT_.out HW_.out (by kernel_rfl)) (fun _ _ _ h => h) (Or.inl ⟨by rfl, ?_⟩) hHeld ?_ ?_
           rotate_left
           ·rintro w' ⟨s0, s1⟩
            go_simp
            with_reducible rfl
           rotate_left
           ·simp only [Act.put, List.setIfInBounds_toArray, List.set_cons_zero, List.set_cons_succ, i64_w, i32_w]
            rfl
           refine pure_ (i := 3) (N := some 35) (v := ?_) (a' := ?_) (fl_ 22 4) rfl rfl (any_of HT_.out (by kernel_rfl)) (fun _ _ _ h => h) (Or.inl ⟨by rfl, ?_⟩) ?_ ?_
           rotate_left
           ·intro w'
            go_simp
            with_reducible rfl
           rotate_left
           ·simp only [Act.put, List.setIfInBounds_toArray, List.set_cons_zero, List.set_cons_succ, i64_w, i32_w]
            rfl
           refine pure_ (i := 4) (N := some 36) (v := ?_) (a' := ?_) (fl_ 22 5) rfl rfl (any_of HT_.out (by kernel_rfl)) (fun _ _ _ h => h) (Or.inl ⟨by rfl, ?_⟩) ?_ ?_
           rotate_left
           ·intro w'
            go_simp
            with_reducible rfl
           rotate_left
           ·simp only [Act.put, List.setIfInBounds_toArray, List.set_cons_zero, List.set_cons_succ, i64_w, i32_w]
            rfl
           refine one_ (i := 5) (N := some 37) (fl_ 22 6) rfl rfl (one_of HT_.out (by kernel_rfl)) (by decide) (fun K hK => ?_)
           refine gs_ Try.func90 (by kernel_rfl) rfl #[.int .i64 (rd l1 x28_2), .int .i64 0, .int .i64 (wrap64 ((l0_1.length : Int) - 1))] (by rfl) rfl rfl ?_
           with_reducible refine (spec_l1In.calls (rd l1 x28_2) 0 (wrap64 ((l0_1.length : Int) - 1)) true _ A24.out).mono ?_
           rintro e w' ⟨rfl, ⟨nd, rfl⟩⟩
           refine ⟨_, rfl, ?_⟩
           refine hK.out _ _ ⟨(blk_cell BK1270.out 0).trans rfl, (blk_cell BK1270.out 1).trans rfl⟩ (fun hHeld => ?_)
           clear hK K
           refine norm_ (a' := ?_) ?_ ?_
           rotate_left
           ·show Act.put _ (some 37) _ = _
            simp only [Act.put, List.setIfInBounds_toArray, List.set_cons_zero, List.set_cons_succ, i64_w, i32_w]
            rfl
           refine pure_ (i := 6) (N := some 38) (v := ?_) (a' := ?_) (fl_ 22 7) rfl rfl (any_of HT_.out (by kernel_rfl)) (fun _ _ _ h => h) (Or.inl ⟨by rfl, ?_⟩) ?_ ?_
           rotate_left
           ·intro w'
            go_simp
            with_reducible rfl
           rotate_left
           ·simp only [Act.put, List.setIfInBounds_toArray, List.set_cons_zero, List.set_cons_succ, i64_w, i32_w]
            rfl
           refine pure_ (i := 7) (N := some 39) (v := ?_) (a' := ?_) (fl_ 22 8) rfl rfl (any_of HT_.out (by kernel_rfl)) (fun _ _ _ h => h) (Or.inl ⟨by rfl, ?_⟩) ?_ ?_
           rotate_left
           ·intro w'
            go_simp
            with_reducible rfl
           rotate_left
           ·simp only [Act.put, List.setIfInBounds_toArray, List.set_cons_zero, List.set_cons_succ, i64_w, i32_w]
            rfl
           refine pure_ (i := 8) (N := some 40) (v := ?_) (a' := ?_) (fl_ 22 9) rfl rfl (any_of HT_.out (by kernel_rfl)) (fun _ _ _ h => h) (Or.inl ⟨by rfl, ?_⟩) ?_ ?_
           rotate_left
           ·intro w'
            go_simp
            with_reducible rfl
           rotate_left
           ·simp only [Act.put, List.setIfInBounds_toArray, List.set_cons_zero, List.set_cons_succ, i64_w, i32_w]
            rfl
           refine pure_ (i := 9) (N := some 41) (v := ?_) (a' := ?_) (fl_ 22 10) rfl rfl (any_of HT_.out (by kernel_rfl)) (fun _ _ _ h => h) (Or.inl ⟨by rfl, ?_⟩) ?_ ?_
           rotate_left
           ·intro w'
            go_simp
            with_reducible rfl
           rotate_left
           ·simp only [Act.put, List.setIfInBounds_toArray, List.set_cons_zero, List.set_cons_succ, i64_w, i32_w]
            rfl
           refine pure_ (i := 10) (N := some 42) (v := ?_) (a' := ?_) (fl_ 22 11) rfl rfl (any_of HT_.out (by kernel_rfl)) (fun _ _ _ h => h) (Or.inl ⟨by rfl, ?_⟩) ?_ ?_
           rotate_left
           ·intro w'
            go_simp
            with_reducible rfl
           rotate_left
           ·simp only [Act.put, List.setIfInBounds_toArray, List.set_cons_zero, List.set_cons_succ, i64_w, i32_w]
            rfl
           refine pure_ (i := 11) (N := some 43) (v := ?_) (a' := ?_) (fl_ 22 12) rfl rfl (any_of HT_.out (by kernel_rfl)) (fun _ _ _ h => h) (Or.inl ⟨by rfl, ?_⟩) ?_ ?_
           rotate_left
           ·intro w'
            go_simp
            with_reducible rfl
           rotate_left
           ·simp only [Act.put, List.setIfInBounds_toArray, List.set_cons_zero, List.set_cons_succ, i64_w, i32_w]
            rfl
           refine pure_ (i := 12) (N := some 44) (v := ?_) (a' := ?_) (fl_ 22 13) rfl rfl (any_of HT_.out (by kernel_rfl)) (fun _ _ _ h => h) (Or.inl ⟨by rfl, ?_⟩) ?_ ?_
           rotate_left
           ·intro w'
            go_simp
            with_reducible rfl
           rotate_left
           ·simp only [Act.put, List.setIfInBounds_toArray, List.set_cons_zero, List.set_cons_succ, i64_w, i32_w]
            rfl
           refine pure_ (i := 13) (N := some 45) (v := ?_) (a' := ?_) (fl_ 22 14) rfl rfl (any_of HT_.out (by kernel_rfl)) (fun _ _ _ h => h) (Or.inl ⟨by rfl, ?_⟩) ?_ ?_
           rotate_left
           ·intro w'
            go_simp
            with_reducible rfl
           rotate_left
           ·simp only [Act.put, List.setIfInBounds_toArray, List.set_cons_zero, List.set_cons_succ, i64_w, i32_w]
            rfl
           refine pure_ (i := 14) (N := some 46) (v := ?_) (a' := ?_) (fl_ 22 15) rfl rfl (any_of HT_.out (by kernel_rfl)) (fun _ _ _ h => h) (Or.inl ⟨by rfl, ?_⟩) ?_ ?_
           rotate_left
           ·intro w'
            go_simp
            with_reducible rfl
           rotate_left
           ·simp only [Act.put, List.setIfInBounds_toArray, List.set_cons_zero, List.set_cons_succ, i64_w, i32_w]
            rfl
           refine pure_ (i := 15) (N := some 47) (v := ?_) (a' := ?_) (fl_ 22 16) rfl rfl (any_of HT_.out (by kernel_rfl)) (fun _ _ _ h => h) (Or.inl ⟨by rfl, ?_⟩) ?_ ?_
           rotate_left
           ·intro w'
            go_simp
            with_reducible rfl
           rotate_left
           ·simp only [Act.put, List.setIfInBounds_toArray, List.set_cons_zero, List.set_cons_succ, i64_w, i32_w]
            rfl
           refine pure_ (i := 18) (N := some 50) (v := ?_) (a' := ?_) #[true, true, true, true, true, true, true, true, true, true, true, true, true, true, true, true, false, false, true, false, false, false] rfl rfl (any_of HT_.out (by kernel_rfl)) (fun _ _ _ h => h) (Or.inl ⟨by rfl, ?_⟩) ?_ ?_
           rotate_left
           ·intro w'
            go_simp
            with_reducible rfl
           rotate_left
           ·simp only [Act.put, List.setIfInBounds_toArray, List.set_cons_zero, List.set_cons_succ, i64_w, i32_w]
            rfl
           refine take_ (i := 16) (N := some 48) (v := ?_) (a' := ?_) #[true, true, true, true, true, true, true, true, true, true, true, true, true, true, true, true, true, false, true, false, false, false] rfl rfl (take_ofW HT_.out HW_.out (by kernel_rfl)) (fun _ _ _ h => h) (Or.inl ⟨by rfl, ?_⟩) hHeld ?_ ?_
           rotate_left
           ·rintro w' ⟨s0, s1⟩
            go_simp
            with_reducible rfl
           rotate_left
           ·simp only [Act.put, List.setIfInBounds_toArray, List.set_cons_zero, List.set_cons_succ, i64_w, i32_w]
            rfl
           refine take_ (i := 17) (N := some 49) (v := ?_) (a' := ?_) (fl_ 22 19) rfl rfl (take_ofW HT_.out HW_.out (by kernel_rfl)) (fun _ _ _ h => h) (Or.inl ⟨by rfl, ?_⟩) hHeld ?_ ?_
           rotate_left
           ·rintro w' ⟨s0, s1⟩
            go_simp
            with_reducible rfl
           rotate_left
           ·simp only [Act.put, List.setIfInBounds_toArray, List.set_cons_zero, List.set_cons_succ, i64_w, i32_w]
            rfl
           refine one_ (i := 19) (N := some 51) (fl_ 22 20) rfl rfl (one_of HT_.out (by kernel_rfl)) (by decide) (fun K hK => ?_)
           refine gs_ Try.func122 (by kernel_rfl) rfl #[.agg #[.int .i64 a0_0, .slice A0_1 l0_1.length c0_1], .int .i64 x6_2] (by rfl) rfl rfl ?_
           with_reducible refine (spec_gaLeft.calls k2 a0_0 _ _ l0_1 x6_2 t1278 _ ?side1 ?side2 A32.out).mono ?_
           (case side1 => exact Cl_ (Kd.C_below HR0_1.out (Bl_ HB)))
           (case side2 => exact HC0_1.out)
           rintro e w44 ⟨v1279, rfl, ho0, hb⟩
           refine ⟨_, rfl, ?_⟩
           have HO1280 := Aside0.mk (Kd.R_lower ho0 (below_size (Bl_ HB)))
           replace BK1270 := blkB_ BK1270 hb
           replace BK1271 := blkB_ BK1271 hb
           replace HB := Aside0.mk (below_step (Bl_ HB) hb)
           (try clear hb); (try clear hb2); (try clear hk); (try clear hi); (try clear ho0)
           obtain ⟨Ao45, co45, eo45⟩ := Kd.R_slice HO1280.out
           (first | subst eo45 | (injection eo45 with f1_ f2_ f3_; have f4_ := f1_.symm; have f5_ := f3_.symm; clear f1_ f2_ f3_; subst f4_; subst f5_))
           refine hK.out _ _ ⟨(blk_cell BK1270.out 0).trans rfl, (blk_cell BK1270.out 1).trans rfl⟩ (fun hHeld => ?_)
           clear hK K
           refine norm_ (a' := ?_) ?_ ?_
           rotate_left
           ·show Act.put _ (some 51) _ = _
            simp only [Act.put, List.setIfInBounds_toArray, List.set_cons_zero, List.set_cons_succ, i64_w, i32_w]
            rfl
           refine one_ (i := 20) (N := some 52) (fl_ 22 21) rfl rfl (one_of HT_.out (by kernel_rfl)) (by decide) (fun K hK => ?_)
           refine gs_ Try.func121 (by kernel_rfl) rfl #[.int .i64 a0_0, .slice Ao45 t1278.length co45] (by rfl) rfl rfl ?_
           with_reducible refine (spec_gaHome.calls k2 a0_0 _ _ t1278 false _ ?side1 ?side2 A33.out).mono ?_
           (case side1 => exact Cl_ (Kd.R_reads' HO1280.out).2.2)
           (case side2 => exact (Kd.R_reads' HO1280.out).2.1)
           rintro e w46 ⟨rfl, hb⟩
           refine ⟨_, rfl, ?_⟩
           replace HO1280 := Aside0.mk (Kd.R_below (Rl_ HO1280.out) hb)
           replace BK1270 := blkB_ BK1270 hb
           replace BK1271 := blkB_ BK1271 hb
           replace HB := Aside0.mk (below_step (Bl_ HB) hb)
           (try clear hb); (try clear hb2); (try clear hk); (try clear hi); (try clear ho0)
           refine hK.out _ _ ⟨(blk_cell BK1270.out 0).trans rfl, (blk_cell BK1270.out 1).trans rfl⟩ (fun hHeld => ?_)
           clear hK K
           refine norm_ (a' := ?_) ?_ ?_
           rotate_left
           ·show Act.put _ (some 52) _ = _
            simp only [Act.put, List.setIfInBounds_toArray, List.set_cons_zero, List.set_cons_succ, i64_w, i32_w]
            rfl
           refine pure_ (i := 21) (N := some 53) (v := ?_) (a' := ?_) (fl_ 22 22) rfl rfl (any_of HT_.out (by kernel_rfl)) (fun _ _ _ h => h) (Or.inl ⟨by rfl, ?_⟩) ?_ ?_
           rotate_left
           ·intro w'
            go_simp
            with_reducible rfl
           rotate_left
           ·simp only [Act.put, List.setIfInBounds_toArray, List.set_cons_zero, List.set_cons_succ, i64_w, i32_w]
            rfl
           refine done_ (done_of HT_.out (by kernel_rfl)) ?_
           try go_wp2
           go_roundg k2
           case measure => have := HJ2.out; have := HK2.out; omega
           case rel => exact ⟨(Go.bits .andNot .i64 x6_2 (ji42)), (wrap64 (x28_2 + 1)), (x1272000_2), (by first | rfl | (simp; done) | (simp only [← hji42] <;> (first | rfl | simp)) | (simp [*]; done)), (by first | rfl | (simp; done) | (simp [*]; done)), H', ⟨by have := HJ2.out; have := HK2.out; omega⟩, ⟨bl_ BK1270⟩, ⟨bl_ BK1271⟩, ⟨Bl_ HB⟩⟩
        as_aux_lemma =>
         replace c25 := Bool.eq_false_iff.mpr c25
         subst c25
         rw [if_neg (show ¬ (false = true) by decide)] at H
         simp only [Option.some.injEq, Prod.mk.injEq] at H
         obtain ⟨rfl, rfl, rfl⟩ := H
         have p1276 : 0 ≤ (x28_2 : Int) := of_decide_eq_true (by first | (with_reducible assumption) | assumption)
         have q1276 : x28_2 < (l1.length : Int) := of_decide_eq_true (by first | (with_reducible assumption) | assumption)
         obtain ⟨ad1276, e1276, hx1276_0⟩ := Kd.at_int HR1.out x28_2 p1276 q1276
         cases e1276
         replace hx1276_0 := (HB.out.cell (World.block_lt_of_cell? w _ hx1276_0)).trans hx1276_0
         replace p1276 := eq_true p1276
         replace q1276 := eq_true q1276
         try go_wp2
         replace BK1270 := Aside0.mk (blk_drew BK1270.out)
         replace BK1271 := Aside0.mk (blk_drew BK1271.out)
         replace HB := Aside0.mk (below_drew1 HB.out)
         refine start_ (n := 22) (S := fun w' => w'.cell? ⟨gb1270, 0, none⟩ = some (.int .i64 a0_0) ∧ w'.cell? ⟨gb1270, 1, none⟩ = some (.slice A0_1 l0_1.length c0_1)) (ds := []) (fl_ 22 0) (by kernel_rfl) rfl rfl ⟨(blk_cell BK1270.out 0).trans rfl, (blk_cell BK1270.out 1).trans rfl⟩ (fun hHeld => ?_); refine with_tabW spec_PlayTakes.tab7 spec_PlayTakes.bits7 (fun HT_ HW_ => ?_)
         generalize wr.drew = w47 at BK1270 BK1271 HB hHeld ⊢
         refine pure_ (i := 0) (N := some 32) (v := ?_) (a' := ?_) (fl_ 22 1) rfl rfl (any_of HT_.out (by kernel_rfl)) (fun _ _ _ h => h) (Or.inl ⟨by rfl, ?_⟩) ?_ ?_
         rotate_left
         ·intro w'
          go_simp
          with_reducible rfl
         rotate_left
         ·simp only [Act.put, List.setIfInBounds_toArray, List.set_cons_zero, List.set_cons_succ, i64_w, i32_w]
          rfl
         refine pure_ (i := 1) (N := some 33) (v := ?_) (a' := ?_) (fl_ 22 2) rfl rfl (any_of HT_.out (by kernel_rfl)) (fun _ _ _ h => h) (Or.inl ⟨by rfl, ?_⟩) ?_ ?_
         rotate_left
         ·intro w'
          go_simp
          with_reducible rfl
         rotate_left
         ·simp only [Act.put, List.setIfInBounds_toArray, List.set_cons_zero, List.set_cons_succ, i64_w, i32_w]
          rfl
         refine take_ (i := 2) (N := some 34) (v := ?_) (a' := ?_) (fl_ 22 3) rfl rfl (take_ofW HT_.out HW_.out (by kernel_rfl)) (fun _ _ _ h => h) (Or.inl ⟨by rfl, ?_⟩) hHeld ?_ ?_
         rotate_left
         ·rintro w' ⟨s0, s1⟩
          go_simp
          with_reducible rfl
         rotate_left
         ·simp only [Act.put, List.setIfInBounds_toArray, List.set_cons_zero, List.set_cons_succ, i64_w, i32_w]
          rfl
         refine pure_ (i := 3) (N := some 35) (v := ?_) (a' := ?_) (fl_ 22 4) rfl rfl (any_of HT_.out (by kernel_rfl)) (fun _ _ _ h => h) (Or.inl ⟨by rfl, ?_⟩) ?_ ?_
         rotate_left
         ·intro w'
          go_simp
          with_reducible rfl
         rotate_left
         ·simp only [Act.put, List.setIfInBounds_toArray, List.set_cons_zero, List.set_cons_succ, i64_w, i32_w]
          rfl
         refine pure_ (i := 4) (N := some 36) (v := ?_) (a' := ?_) (fl_ 22 5) rfl rfl (any_of HT_.out (by kernel_rfl)) (fun _ _ _ h => h) (Or.inl ⟨by rfl, ?_⟩) ?_ ?_
         rotate_left
         ·intro w'
          go_simp
          with_reducible rfl
         rotate_left
         ·simp only [Act.put, List.setIfInBounds_toArray, List.set_cons_zero, List.set_cons_succ, i64_w, i32_w]
          rfl
         refine one_ (i := 5) (N := some 37) (fl_ 22 6) rfl rfl (one_of HT_.out (by kernel_rfl)) (by decide) (fun K hK => ?_)
         refine gs_ Try.func90 (by kernel_rfl) rfl #[.int .i64 (rd l1 x28_2), .int .i64 0, .int .i64 (wrap64 ((l0_1.length : Int) - 1))] (by rfl) rfl rfl ?_
         with_reducible refine (spec_l1In.calls (rd l1 x28_2) 0 (wrap64 ((l0_1.length : Int) - 1)) false _ A24.out).mono ?_
         rintro e w' ⟨rfl, ⟨nd, rfl⟩⟩
         refine ⟨_, rfl, ?_⟩
         refine hK.out _ _ ⟨(blk_cell BK1270.out 0).trans rfl, (blk_cell BK1270.out 1).trans rfl⟩ (fun hHeld => ?_)
         clear hK K
         refine norm_ (a' := ?_) ?_ ?_
         rotate_left
         ·show Act.put _ (some 37) _ = _
          simp only [Act.put, List.setIfInBounds_toArray, List.set_cons_zero, List.set_cons_succ, i64_w, i32_w]
          rfl
         refine pure_ (i := 6) (N := some 38) (v := ?_) (a' := ?_) (fl_ 22 7) rfl rfl (any_of HT_.out (by kernel_rfl)) (fun _ _ _ h => h) (Or.inl ⟨by rfl, ?_⟩) ?_ ?_
         rotate_left
         ·intro w'
          go_simp
          with_reducible rfl
         rotate_left
         ·simp only [Act.put, List.setIfInBounds_toArray, List.set_cons_zero, List.set_cons_succ, i64_w, i32_w]
          rfl
         refine pure_ (i := 7) (N := some 39) (v := ?_) (a' := ?_) (fl_ 22 8) rfl rfl (any_of HT_.out (by kernel_rfl)) (fun _ _ _ h => h) (Or.inl ⟨by rfl, ?_⟩) ?_ ?_
         rotate_left
         ·intro w'
          go_simp
          with_reducible rfl
         rotate_left
         ·simp only [Act.put, List.setIfInBounds_toArray, List.set_cons_zero, List.set_cons_succ, i64_w, i32_w]
          rfl
         refine pure_ (i := 8) (N := some 40) (v := undef) (a' := ?_) (fl_ 22 9) rfl rfl (any_of HT_.out (by kernel_rfl)) (fun _ _ _ h => h) (Or.inr ⟨by rfl, rfl⟩) ?_ ?_
         rotate_left
         ·simp only [Act.put, List.setIfInBounds_toArray, List.set_cons_zero, List.set_cons_succ, i64_w, i32_w]
          rfl
         refine pure_ (i := 9) (N := some 41) (v := undef) (a' := ?_) (fl_ 22 10) rfl rfl (any_of HT_.out (by kernel_rfl)) (fun _ _ _ h => h) (Or.inr ⟨by rfl, rfl⟩) ?_ ?_
         rotate_left
         ·simp only [Act.put, List.setIfInBounds_toArray, List.set_cons_zero, List.set_cons_succ, i64_w, i32_w]
          rfl
         refine pure_ (i := 10) (N := some 42) (v := undef) (a' := ?_) (fl_ 22 11) rfl rfl (any_of HT_.out (by kernel_rfl)) (fun _ _ _ h => h) (Or.inr ⟨by rfl, rfl⟩) ?_ ?_
         rotate_left
         ·simp only [Act.put, List.setIfInBounds_toArray, List.set_cons_zero, List.set_cons_succ, i64_w, i32_w]
          rfl
         refine pure_ (i := 11) (N := some 43) (v := undef) (a' := ?_) (fl_ 22 12) rfl rfl (any_of HT_.out (by kernel_rfl)) (fun _ _ _ h => h) (Or.inr ⟨by rfl, rfl⟩) ?_ ?_
         rotate_left
         ·simp only [Act.put, List.setIfInBounds_toArray, List.set_cons_zero, List.set_cons_succ, i64_w, i32_w]
          rfl
         refine pure_ (i := 12) (N := some 44) (v := undef) (a' := ?_) (fl_ 22 13) rfl rfl (any_of HT_.out (by kernel_rfl)) (fun _ _ _ h => h) (Or.inr ⟨by rfl, rfl⟩) ?_ ?_
         rotate_left
         ·simp only [Act.put, List.setIfInBounds_toArray, List.set_cons_zero, List.set_cons_succ, i64_w, i32_w]
          rfl
         refine pure_ (i := 13) (N := some 45) (v := ?_) (a' := ?_) (fl_ 22 14) rfl rfl (any_of HT_.out (by kernel_rfl)) (fun _ _ _ h => h) (Or.inl ⟨by rfl, ?_⟩) ?_ ?_
         rotate_left
         ·intro w'
          go_simp
          with_reducible rfl
         rotate_left
         ·simp only [Act.put, List.setIfInBounds_toArray, List.set_cons_zero, List.set_cons_succ, i64_w, i32_w]
          rfl
         refine pure_ (i := 14) (N := some 46) (v := ?_) (a' := ?_) (fl_ 22 15) rfl rfl (any_of HT_.out (by kernel_rfl)) (fun _ _ _ h => h) (Or.inl ⟨by rfl, ?_⟩) ?_ ?_
         rotate_left
         ·intro w'
          go_simp
          with_reducible rfl
         rotate_left
         ·simp only [Act.put, List.setIfInBounds_toArray, List.set_cons_zero, List.set_cons_succ, i64_w, i32_w]
          rfl
         refine pure_ (i := 15) (N := some 47) (v := undef) (a' := ?_) (fl_ 22 16) rfl rfl (any_of HT_.out (by kernel_rfl)) (fun _ _ _ h => h) (Or.inr ⟨by rfl, rfl⟩) ?_ ?_
         rotate_left
         ·simp only [Act.put, List.setIfInBounds_toArray, List.set_cons_zero, List.set_cons_succ, i64_w, i32_w]
          rfl
         refine pure_ (i := 16) (N := some 48) (v := undef) (a' := ?_) (fl_ 22 17) rfl rfl (any_of HT_.out (by kernel_rfl)) (fun _ _ _ h => h) (Or.inr ⟨by rfl, rfl⟩) ?_ ?_
         rotate_left
         ·simp only [Act.put, List.setIfInBounds_toArray, List.set_cons_zero, List.set_cons_succ, i64_w, i32_w]
          rfl
         refine pure_ (i := 17) (N := some 49) (v := undef) (a' := ?_) (fl_ 22 18) rfl rfl (any_of HT_.out (by kernel_rfl)) (fun _ _ _ h => h) (Or.inr ⟨by rfl, rfl⟩) ?_ ?_
         rotate_left
         ·simp only [Act.put, List.setIfInBounds_toArray, List.set_cons_zero, List.set_cons_succ, i64_w, i32_w]
          rfl
         refine pure_ (i := 18) (N := some 50) (v := undef) (a' := ?_) (fl_ 22 19) rfl rfl (any_of HT_.out (by kernel_rfl)) (fun _ _ _ h => h) (Or.inr ⟨by rfl, rfl⟩) ?_ ?_
         rotate_left
         ·simp only [Act.put, List.setIfInBounds_toArray, List.set_cons_zero, List.set_cons_succ, i64_w, i32_w]
          rfl
         refine pure_ (i := 19) (N := some 51) (v := undef) (a' := ?_) (fl_ 22 20) rfl rfl (any_of HT_.out (by kernel_rfl)) (fun _ _ _ h => h) (Or.inr ⟨by rfl, rfl⟩) ?_ ?_
         rotate_left
         ·simp only [Act.put, List.setIfInBounds_toArray, List.set_cons_zero, List.set_cons_succ, i64_w, i32_w]
          rfl
         refine pure_ (i := 20) (N := some 52) (v := undef) (a' := ?_) (fl_ 22 21) rfl rfl (any_of HT_.out (by kernel_rfl)) (fun _ _ _ h => h) (Or.inr ⟨by rfl, rfl⟩) ?_ ?_
         rotate_left
         ·simp only [Act.put, List.setIfInBounds_toArray, List.set_cons_zero, List.set_cons_succ, i64_w, i32_w]
          rfl
         refine pure_ (i := 21) (N := some 53) (v := ?_) (a' := ?_) (fl_ 22 22) rfl rfl (any_of HT_.out (by kernel_rfl)) (fun _ _ _ h => h) (Or.inl ⟨by rfl, ?_⟩) ?_ ?_
         rotate_left
         ·intro w'
          go_simp
          with_reducible rfl
         rotate_left
         ·simp only [Act.put, List.setIfInBounds_toArray, List.set_cons_zero, List.set_cons_succ, i64_w, i32_w]
          rfl
         refine done_ (done_of HT_.out (by kernel_rfl)) ?_
         have hnb48 := NB1271_1270.out
         have hnc48 := NB1270_1271.out
         have hcz49_0 : w47.cell? ⟨gb1271, 0, none⟩ = some (.int .i64 x1272000_2) := (blk_cell BK1271.out 0).trans rfl
         have hcz49_1 : w47.cell? ⟨gb1271, 1, none⟩ = some (.slice none 0 0) := (blk_cell BK1271.out 1).trans rfl
         have hfz49_0 := blk_frozen BK1271.out 0
         have hfz49_1 := blk_frozen BK1271.out 1
         try go_wp2
         refine bodyPost_ret (results_ct rfl _ _ gb1271 26 #[.int .i64 0, .slice none 0 0] (0, 0) _ rfl (by (with_reducible repeat (first | refine blk_drewN ?_ _ | refine blk_drew ?_ | refine blk_alloc ?_ _)); refine blk_put (cs := #[.int .i64 0, .slice none 0 0]) ?_ 1 _ rfl; (with_reducible repeat (first | refine blk_drewN ?_ _ | refine blk_drew ?_ | refine blk_alloc ?_ _)); refine blk_put (cs := #[.int .i64 x1272000_2, .slice none 0 0]) ?_ 0 _ rfl; (with_reducible repeat (first | refine blk_drewN ?_ _ | refine blk_drew ?_ | refine blk_alloc ?_ _)); exact BK1271.out) Try.underlying26 rfl (by kernel_rfl)) rfl ?_
         exact ⟨_, by first | rfl | (simp [errW_none, errW_some] <;> rfl) | (simp only [← hji18]; first | rfl | (simp [errW_none, errW_some] <;> rfl)) | (simp [*, errW_none, errW_some] <;> rfl), by first | exact Kd.R_nil _ _ _ _ _ | exact Kd.N_nil _ _ _ _ _ | exact Kd.V_nil _ _ _ _ _ | exact Kd.Q_nil _ _ _ _ _ | exact Kd.S_nil _ _ _ _ _, Bl_ HB⟩
       rw [if_neg c21] at H
       have c21b0 : decide (x28_2 < (l1.length : Int)) = false := decide_eq_false c21
       clear c21
       replace H := Option.bind_eq_some_iff.mp H
       obtain ⟨t1273, A500, H⟩ := H
       (try dsimp only at H)
       have A50 := Aside0.mk A500
       clear A500
       simp only [Option.some.injEq, Prod.mk.injEq] at H
       obtain ⟨rfl, rfl, rfl⟩ := H
       try go_wp2
       replace BK1270 := Aside0.mk (blk_drew BK1270.out)
       replace BK1271 := Aside0.mk (blk_drew BK1271.out)
       replace HB := Aside0.mk (below_drew1 HB.out)
       refine start_ (n := 8) (S := fun w' => w'.cell? ⟨gb1270, 0, none⟩ = some (.int .i64 a0_0) ∧ w'.cell? ⟨gb1270, 1, none⟩ = some (.slice A0_1 l0_1.length c0_1)) (ds := []) #[false, false, false, false, false, false, false, false] (by kernel_rfl) rfl rfl ⟨(blk_cell BK1270.out 0).trans rfl, (blk_cell BK1270.out 1).trans rfl⟩ (fun hHeld => ?_); refine with_tabW spec_PlayTakes.tab11 spec_PlayTakes.bits11 (fun HT_ HW_ => ?_)
       generalize wr.drew = w51 at BK1270 BK1271 HB hHeld ⊢
       refine pure_ (i := 0) (N := some 60) (v := ?_) (a' := ?_) #[true, false, false, false, false, false, false, false] rfl rfl (any_of HT_.out (by kernel_rfl)) (fun _ _ _ h => h) (Or.inl ⟨by rfl, ?_⟩) ?_ ?_
       rotate_left
       ·intro w'
        go_simp
        with_reducible rfl
       rotate_left
       ·simp only [Act.put, List.setIfInBounds_toArray, List.set_cons_zero, List.set_cons_succ, i64_w, i32_w]
        rfl
       refine pure_ (i := 3) (N := some 63) (v := ?_) (a' := ?_) #[true, false, false, true, false, false, false, false] rfl rfl (any_of HT_.out (by kernel_rfl)) (fun _ _ _ h => h) (Or.inl ⟨by rfl, ?_⟩) ?_ ?_
       rotate_left
       ·intro w'
        go_simp
        with_reducible rfl
       rotate_left
       ·simp only [Act.put, List.setIfInBounds_toArray, List.set_cons_zero, List.set_cons_succ, i64_w, i32_w]
        rfl
       refine take_ (i := 1) (N := some 61) (v := ?_) (a' := ?_) #[true, true, false, true, false, false, false, false] rfl rfl (take_ofW HT_.out HW_.out (by kernel_rfl)) (fun _ _ _ h => h) (Or.inl ⟨by rfl, ?_⟩) hHeld ?_ ?_
       rotate_left
       ·rintro w' ⟨s0, s1⟩
        go_simp
        with_reducible rfl
       rotate_left
       ·simp only [Act.put, List.setIfInBounds_toArray, List.set_cons_zero, List.set_cons_succ, i64_w, i32_w]
        rfl
       refine take_ (i := 2) (N := some 62) (v := ?_) (a' := ?_) #[true, true, true, true, false, false, false, false] rfl rfl (take_ofW HT_.out HW_.out (by kernel_rfl)) (fun _ _ _ h => h) (Or.inl ⟨by rfl, ?_⟩) hHeld ?_ ?_
       rotate_left
       ·rintro w' ⟨s0, s1⟩
        go_simp
        with_reducible rfl
       rotate_left
       ·simp only [Act.put, List.setIfInBounds_toArray, List.set_cons_zero, List.set_cons_succ, i64_w, i32_w]
        rfl
       refine one_ (i := 4) (N := some 64) #[true, true, true, true, true, false, false, false] rfl rfl (one_of HT_.out (by kernel_rfl)) (by decide) (fun K hK => ?_)
       refine gs_ Try.func122 (by kernel_rfl) rfl #[.agg #[.int .i64 a0_0, .slice A0_1 l0_1.length c0_1], .int .i64 x6_2] (by rfl) rfl rfl ?_
       with_reducible refine (spec_gaLeft.calls k2 a0_0 _ _ l0_1 x6_2 t1273 _ ?side1 ?side2 A50.out).mono ?_
       (case side1 => exact Cl_ (Kd.C_below HR0_1.out HB.out))
       (case side2 => exact HC0_1.out)
       rintro e w52 ⟨v1274, rfl, ho0, hb⟩
       refine ⟨_, rfl, ?_⟩
       have HO1275 := Aside0.mk (Kd.R_lower ho0 (below_size (Bl_ HB)))
       replace BK1270 := blkB_ BK1270 hb
       replace BK1271 := blkB_ BK1271 hb
       replace HB := Aside0.mk (below_step (Bl_ HB) hb)
       (try clear hb); (try clear hb2); (try clear hk); (try clear hi); (try clear ho0)
       obtain ⟨Ao53, co53, eo53⟩ := Kd.R_slice HO1275.out
       (first | subst eo53 | (injection eo53 with f1_ f2_ f3_; have f4_ := f1_.symm; have f5_ := f3_.symm; clear f1_ f2_ f3_; subst f4_; subst f5_))
       refine hK.out _ _ ⟨(blk_cell BK1270.out 0).trans rfl, (blk_cell BK1270.out 1).trans rfl⟩ (fun hHeld => ?_)
       clear hK K
       refine norm_ (a' := ?_) ?_ ?_
       rotate_left
       ·show Act.put _ (some 64) _ = _
        simp only [Act.put, List.setIfInBounds_toArray, List.set_cons_zero, List.set_cons_succ, i64_w, i32_w]
        rfl
       refine pure_ (i := 5) (N := some 65) (v := ?_) (a' := ?_) #[true, true, true, true, true, true, false, false] rfl rfl (any_of HT_.out (by kernel_rfl)) (fun _ _ _ h => h) (Or.inl ⟨by rfl, ?_⟩) ?_ ?_
       rotate_left
       ·intro w'
        go_simp
        with_reducible rfl
       rotate_left
       ·simp only [Act.put, List.setIfInBounds_toArray, List.set_cons_zero, List.set_cons_succ, i64_w, i32_w]
        rfl
       refine one_ (i := 6) (N := none) #[true, true, true, true, true, true, true, false] rfl rfl (one_of HT_.out (by kernel_rfl)) (by decide) (fun K hK => ?_)
       have hs54 : w52.cell? ⟨gb1271, 0, none⟩ = some (.int .i64 x1272000_2) := (blk_cell BK1271.out 0).trans rfl
       have hfs54 := blk_frozen BK1271.out 0
       have hns54_0 := NB1270_1271.out
       have hms54_0 := NB1271_1270.out
       have hs55 : w52.cell? ⟨gb1271, 1, none⟩ = some (.slice none 0 0) := (blk_cell BK1271.out 1).trans rfl
       have hfs55 := blk_frozen BK1271.out 1
       have hns55_0 := NB1270_1271.out
       have hms55_0 := NB1271_1270.out
       refine skip_ (w1 := ?_) (by rfl) rfl ?_ ?_
       rotate_left
       ·go_simp
        rfl
       refine hK.out _ _ ⟨((cell_far (p := ⟨gb1271, _, none⟩) NB1270_1271.out _).trans (((cell_far (p := ⟨gb1271, _, none⟩) NB1270_1271.out _).trans (hHeld.1)))), ((cell_far (p := ⟨gb1271, _, none⟩) NB1270_1271.out _).trans (((cell_far (p := ⟨gb1271, _, none⟩) NB1270_1271.out _).trans (hHeld.2))))⟩ (fun hHeld => ?_)
       clear hK K
       refine pure_ (i := 7) (N := some 5) (v := ?_) (a' := ?_) #[true, true, true, true, true, true, true, true] rfl rfl (any_of HT_.out (by kernel_rfl)) (fun _ _ _ h => h) (Or.inl ⟨by rfl, ?_⟩) ?_ ?_
       rotate_left
       ·intro w'
        go_simp
        with_reducible rfl
       rotate_left
       ·simp only [Act.put, List.setIfInBounds_toArray, List.set_cons_zero, List.set_cons_succ, i64_w, i32_w]
        rfl
       refine done_ (done_of HT_.out (by kernel_rfl)) ?_
       try go_wp2
       refine bodyPost_ret (results_ct rfl _ _ gb1271 26 #[.int .i64 a0_0, .slice Ao53 t1273.length co53] (0, 0) _ rfl (by (with_reducible repeat (first | refine blk_drewN ?_ _ | refine blk_drew ?_ | refine blk_alloc ?_ _)); refine blk_put (cs := #[.int .i64 a0_0, .slice none 0 0]) ?_ 1 _ rfl; (with_reducible repeat (first | refine blk_drewN ?_ _ | refine blk_drew ?_ | refine blk_alloc ?_ _)); refine blk_put (cs := #[.int .i64 x1272000_2, .slice none 0 0]) ?_ 0 _ rfl; (with_reducible repeat (first | refine blk_drewN ?_ _ | refine blk_drew ?_ | refine blk_alloc ?_ _)); exact BK1271.out) Try.underlying26 rfl (by kernel_rfl)) rfl ?_
       exact ⟨_, by first | rfl | (simp [errW_none, errW_some] <;> rfl) | (simp only [← hji18]; first | rfl | (simp [errW_none, errW_some] <;> rfl)) | (simp [*, errW_none, errW_some] <;> rfl), by (with_reducible repeat (first | apply Kd.R_alloc | apply Kd.R_drewN | apply Kd.R_drew)); exact Kd.R_mono (Kd.R_far (p := ⟨gb1271, 1, none⟩) (Kd.R_far (p := ⟨gb1271, 0, none⟩) (Kd.R_types HO1275.out BK1271.out (by decide)) (fun _ hk => hk.2) (.int .i64 a0_0)) (fun _ hk => hk.2) (.slice Ao53 t1273.length co53)) (fun _ hk => trivial), Bl_ HB⟩

/-! ### laws_nLadder: function 66 -/
def laws_nLadder.f (k : Nat) (a0_0 : Int) (l0_1 : List Int) (a1_0 : Int) (l1_1 : List Int) : Option (Bool) := if a0_0 = a1_0 then ((laws_nSame.f k l0_1 l1_1).bind fun t1284 => (some t1284)) else (some false)
theorem laws_nLadder.mono : ∀ a0 a1 a2 a3 k, LeO (laws_nLadder.f k a0 a1 a2 a3) (laws_nLadder.f (k + 1) a0 a1 a2 a3) := by
 intro a0 a1 a2 a3 k
 unfold laws_nLadder.f
 repeat' first
  | (with_reducible exact laws_nSame.mono _ _ _)
  | (with_reducible exact LeO.refl _)
  | (with_reducible exact LeO.none _)
  | (with_reducible refine LeO.ite ?_ ?_)
  | (with_reducible refine LeO.bind ?_ (fun _ => ?_))
  | exact laws_nSame.mono _ _ _
  | exact LeO.none _
  | refine LeO.ite ?_ ?_
  | refine LeO.bind ?_ (fun _ => ?_)
set_option maxHeartbeats 8000000 in
set_option maxRecDepth 100000 in
theorem laws_nLadder.calls (k : Nat) (a0_0 : Int) (A0_1 : Option Addr) (c0_1 : Nat) (l0_1 : List Int) (a1_0 : Int) (A1_1 : Option Addr) (c1_1 : Nat) (l1_1 : List Int) (r : Bool) (w : World) (hr0_1 : Kd.C (Kd.int .i64) w A0_1 l0_1.length l0_1) (hc0_1 : l0_1.length ≤ c0_1) (hr1_1 : Kd.C (Kd.int .i64) w A1_1 l1_1.length l1_1) (hc1_1 : l1_1.length ≤ c1_1) (h : laws_nLadder.f k a0_0 l0_1 a1_0 l1_1 = some r) :
 Calls Try.prog 66 #[.agg #[.int .i64 a0_0, .slice A0_1 l0_1.length c0_1], .agg #[.int .i64 a1_0, .slice A1_1 l1_1.length c1_1]] w fun e w' => e = .returned (.bool r) ∧ Below w.heap.size w w' := by
 have hu26 := Try.underlying26
 have HR0_1 := Aside0.mk hr0_1
 have HC0_1 := Aside0.mk hc0_1
 clear hr0_1 hc0_1
 have HR1_1 := Aside0.mk hr1_1
 have HC1_1 := Aside0.mk hc1_1
 clear hr1_1 hc1_1
 have HB := Aside0.mk (Below.refl w.heap.size w)
 have H : (if a0_0 = a1_0 then ((laws_nSame.f k l0_1 l1_1).bind fun t1284 => (some t1284)) else (some false)) = some r := h
 clear h
 by_cases c3 : a0_0 = a1_0
 ·rw [if_pos c3] at H
  have c3b0 : (a0_0 == a1_0) = true := beq_iff_eq.mpr c3
  have c3b1 : (a0_0 != a1_0) = false := bne_eq_false_iff_eq.mpr c3
  clear c3
  replace H := Option.bind_eq_some_iff.mp H
  obtain ⟨t1284, A40, H⟩ := H
  (try dsimp only at H)
  have A4 := Aside0.mk A40
  clear A40
  obtain rfl := Option.some.inj H
  go_enter Try.func66, Try.ntmps66
  go_wp2_with (first | ((with_reducible refine gate_dst (N := 2) rfl ?_); refine box_event ?hg (N := 2) ?hd (cs := #[.int .i64 a0_0, .slice A0_1 l0_1.length c0_1]) (t := 26) ?hr ?_; (case hd => rfl); (case hg => rfl); (case hr => first | (go_simp; done) | (go_simp; rfl)); intro gb1282 hg w5 hbox hb; have BK1282 := Aside0.mk (hbox); have GW1282 := Aside0.mk ((by rw [hg]; exact (below_size (Bl_ HB)) : w.heap.size ≤ gb1282)); have GE1282 := Aside0.mk ((by rw [hg]; exact (below_size (Bl_ HB)) : w.heap.size ≤ gb1282)); replace HB := Aside0.mk (below_step (Bl_ HB) hb); clear hb hbox hg) | ((with_reducible refine gate_dst (N := 3) rfl ?_); refine box_event ?hg (N := 3) ?hd (cs := #[.int .i64 a1_0, .slice A1_1 l1_1.length c1_1]) (t := 26) ?hr ?_; (case hd => rfl); (case hg => rfl); (case hr => first | (go_simp; done) | (go_simp; rfl)); intro gb1283 hg w6 hbox hb; have BK1283 := Aside0.mk (hbox); have GW1283 := Aside0.mk ((by rw [hg]; exact (below_size (Bl_ HB)) : w.heap.size ≤ gb1283)); have GE1283 := Aside0.mk ((by rw [hg]; exact (below_size (Bl_ HB)) : w.heap.size ≤ gb1283)); replace HB := Aside0.mk (below_step (Bl_ HB) hb); have NB1282_1283 := nbl_ BK1282 hg; have NB1283_1282 := nbg_ BK1282 hg; replace BK1282 := blkB_ BK1282 hb; clear hb hbox hg; have hnb7 := NB1282_1283.out; have hnc7 := NB1283_1282.out; have hcz8_0 : w6.cell? ⟨gb1282, 0, none⟩ = some (.int .i64 a0_0) := (blk_cell BK1282.out 0).trans rfl; have hcz8_1 : w6.cell? ⟨gb1282, 1, none⟩ = some (.slice A0_1 l0_1.length c0_1) := (blk_cell BK1282.out 1).trans rfl; have hfz8_0 := blk_frozen BK1282.out 0; have hfz8_1 := blk_frozen BK1282.out 1; have hcz9_0 : w6.cell? ⟨gb1283, 0, none⟩ = some (.int .i64 a1_0) := (blk_cell BK1283.out 0).trans rfl; have hcz9_1 : w6.cell? ⟨gb1283, 1, none⟩ = some (.slice A1_1 l1_1.length c1_1) := (blk_cell BK1283.out 1).trans rfl; have hfz9_0 := blk_frozen BK1283.out 0; have hfz9_1 := blk_frozen BK1283.out 1) | (go_at_call 39; (with_reducible refine (laws_nSame.calls k _ _ l0_1 _ _ l1_1 t1284 _ ?side1 ?side2 ?side3 ?side4 A4.out).mono ?_); (case side1 => exact Cl_ (Kd.C_below HR0_1.out HB.out)); (case side2 => exact HC0_1.out); (case side3 => exact Cl_ (Kd.C_below HR1_1.out HB.out)); (case side4 => exact HC1_1.out); rintro e w' ⟨rfl, ⟨nd, rfl⟩⟩))
  go_ret
  exact ⟨by first | rfl | (simp [errW_none, errW_some] <;> rfl) | (simp [*, errW_none, errW_some] <;> rfl), Bl_ HB⟩
 rw [if_neg c3] at H
 have c3b0 : (a0_0 == a1_0) = false := beq_eq_false_iff_ne.mpr c3
 have c3b1 : (a0_0 != a1_0) = true := bne_iff_ne.mpr c3
 obtain rfl := Option.some.inj H
 go_enter Try.func66, Try.ntmps66
 go_wp2_with (first | ((with_reducible refine gate_dst (N := 2) rfl ?_); refine box_event ?hg (N := 2) ?hd (cs := #[.int .i64 a0_0, .slice A0_1 l0_1.length c0_1]) (t := 26) ?hr ?_; (case hd => rfl); (case hg => rfl); (case hr => first | (go_simp; done) | (go_simp; rfl)); intro gb1282 hg w10 hbox hb; have BK1282 := Aside0.mk (hbox); have GW1282 := Aside0.mk ((by rw [hg]; exact (below_size (Bl_ HB)) : w.heap.size ≤ gb1282)); have GE1282 := Aside0.mk ((by rw [hg]; exact (below_size (Bl_ HB)) : w.heap.size ≤ gb1282)); replace HB := Aside0.mk (below_step (Bl_ HB) hb); clear hb hbox hg) | ((with_reducible refine gate_dst (N := 3) rfl ?_); refine box_event ?hg (N := 3) ?hd (cs := #[.int .i64 a1_0, .slice A1_1 l1_1.length c1_1]) (t := 26) ?hr ?_; (case hd => rfl); (case hg => rfl); (case hr => first | (go_simp; done) | (go_simp; rfl)); intro gb1283 hg w11 hbox hb; have BK1283 := Aside0.mk (hbox); have GW1283 := Aside0.mk ((by rw [hg]; exact (below_size (Bl_ HB)) : w.heap.size ≤ gb1283)); have GE1283 := Aside0.mk ((by rw [hg]; exact (below_size (Bl_ HB)) : w.heap.size ≤ gb1283)); replace HB := Aside0.mk (below_step (Bl_ HB) hb); have NB1282_1283 := nbl_ BK1282 hg; have NB1283_1282 := nbg_ BK1282 hg; replace BK1282 := blkB_ BK1282 hb; clear hb hbox hg; have hnb12 := NB1282_1283.out; have hnc12 := NB1283_1282.out; have hcz13_0 : w11.cell? ⟨gb1282, 0, none⟩ = some (.int .i64 a0_0) := (blk_cell BK1282.out 0).trans rfl; have hcz13_1 : w11.cell? ⟨gb1282, 1, none⟩ = some (.slice A0_1 l0_1.length c0_1) := (blk_cell BK1282.out 1).trans rfl; have hfz13_0 := blk_frozen BK1282.out 0; have hfz13_1 := blk_frozen BK1282.out 1; have hcz14_0 : w11.cell? ⟨gb1283, 0, none⟩ = some (.int .i64 a1_0) := (blk_cell BK1283.out 0).trans rfl; have hcz14_1 : w11.cell? ⟨gb1283, 1, none⟩ = some (.slice A1_1 l1_1.length c1_1) := (blk_cell BK1283.out 1).trans rfl; have hfz14_0 := blk_frozen BK1283.out 0; have hfz14_1 := blk_frozen BK1283.out 1))
 go_ret
 exact ⟨by first | rfl | (simp [errW_none, errW_some] <;> rfl) | (simp [*, errW_none, errW_some] <;> rfl), Bl_ HB⟩

end Go.Proofs.Ytejbgonbnijgkaa.B
