/- The walks of functions of the given program and of its reference: each call of the machine returns what the plain Lean function of the same name says. Conditions: those in each statement. (Written by this session's program over the kit's print.) -/
import Derived.Test.YthpdhoplddlieaaB0
import Derived.Test.YthpdhoplddlieaaB1
import Derived.Test.YthpdhoplddlieaaB4
import Derived.Test.YthpdhoplddlieaaB18
import Derived.Test.YthpdhoplddlieaaB24
namespace Go.Proofs.Ythpdhoplddlieaa.B
open Go.RowKit Go.Proofs.YthpdhoplddlieaaW.PrintWords Go.Proofs.YthpdhoplddlieaaW.PrintLast Go.Proofs.YthpdhoplddlieaaW.PrintMore
attribute [local go_sem] max2_int min2_int max_two min_two max_three min_three max_four min_four   -- for this text's walks alone
set_option linter.unusedVariables false
set_option linter.unusedSimpArgs false

/-! ### laws_FnExactBesideLadders: function 9 -/
def laws_FnExactBesideLadders.f (k : Nat) (a0_0 : Int) (l0_1 : List Int) (a1_0 : Int) (l1_1 : List Int) : Option (Bool) := (laws_szLadder.f a0_0 l0_1 1048576).bind fun t548 => (if t548 < 0 then (some true) else ((laws_szLadder.f a1_0 l1_1 t548).bind fun t549 => (if t549 < 0 then (some true) else ((laws_toLadder.f k a0_0 l0_1).bind fun bt550 => ((laws_toLadder.f k a1_0 l1_1).bind fun bt554 => ((spec_BesideLadders.f k bt550.1 bt550.2 bt554.1 bt554.2).bind fun bt558 => ((laws_toLadder.f k a0_0 l0_1).bind fun bt564 => ((laws_toLadder.f k a1_0 l1_1).bind fun bt569 => ((impl_BesideLadders.f k bt564.1 bt564.2 bt569.1 bt569.2).bind fun bt574 => ((laws_eqLadder.f k bt574.1 bt574.2.1 bt558.1 bt558.2.1).bind fun t580 => (if t580 = true then (if (bt574.2.2 != bt558.2.2) = true then (none) else ((laws_toLadder.f k a0_0 l0_1).bind fun bt581 => ((laws_eqLadder.f k bt564.1 bt564.2 bt581.1 bt581.2).bind fun t585 => (if t585 = true then ((laws_toLadder.f k a1_0 l1_1).bind fun bt586 => ((laws_eqLadder.f k bt569.1 bt569.2 bt586.1 bt586.2).bind fun t590 => (if t590 = true then ((laws_markLadder.f k bt564.1 bt564.2 1).bind fun bt591 => ((laws_markLadder.f k bt569.1 bt569.2 bt591.1).bind fun bt593 => (if bt593.1 < 0 then (none) else ((laws_eqLadder.f k bt574.1 bt574.2.1 bt558.1 bt558.2.1).bind fun t595 => (if t595 = true then ((laws_markLadder.f k bt574.1 bt574.2.1 1).bind fun bt596 => ((laws_heldLadder.f k bt574.1 bt596.2 1).bind fun t598 => (if t598 < 0 then (none) else (if t598 = bt596.1 then ((laws_toLadder.f k a0_0 l0_1).bind fun bt599 => ((laws_toLadder.f k a1_0 l1_1).bind fun bt603 => ((impl_BesideLadders.f k bt599.1 bt599.2 bt603.1 bt603.2).bind fun bt607 => ((laws_eqLadder.f k bt607.1 bt607.2.1 bt558.1 bt558.2.1).bind fun t613 => (if t613 = true then (if (bt607.2.2 != bt558.2.2) = true then (none) else ((laws_heldLadder.f k bt574.1 bt596.2 1).bind fun t614 => (if t614 < 0 then (none) else (if t614 = bt596.1 then (some true) else (none))))) else (none)))))) else (none))))) else (none)))))) else (none)))) else (none))))) else (none))))))))))))
theorem laws_FnExactBesideLadders.mono : ∀ a0 a1 a2 a3 k, LeO (laws_FnExactBesideLadders.f k a0 a1 a2 a3) (laws_FnExactBesideLadders.f (k + 1) a0 a1 a2 a3) := by
 intro a0 a1 a2 a3 k
 unfold laws_FnExactBesideLadders.f
 repeat' first
  | (with_reducible exact impl_BesideLadders.mono _ _ _ _ _)
  | (with_reducible exact laws_eqLadder.mono _ _ _ _ _)
  | (with_reducible exact laws_heldLadder.mono _ _ _ _)
  | (with_reducible exact laws_markLadder.mono _ _ _ _)
  | (with_reducible exact laws_toLadder.mono _ _ _)
  | (with_reducible exact spec_BesideLadders.mono _ _ _ _ _)
  | (with_reducible exact LeO.refl _)
  | (with_reducible exact LeO.none _)
  | (with_reducible refine LeO.ite ?_ ?_)
  | (with_reducible refine LeO.bind ?_ (fun _ => ?_))
  | exact impl_BesideLadders.mono _ _ _ _ _
  | exact laws_eqLadder.mono _ _ _ _ _
  | exact laws_heldLadder.mono _ _ _ _
  | exact laws_markLadder.mono _ _ _ _
  | exact laws_toLadder.mono _ _ _
  | exact spec_BesideLadders.mono _ _ _ _ _
  | exact LeO.none _
  | refine LeO.ite ?_ ?_
  | refine LeO.bind ?_ (fun _ => ?_)
def laws_FnExactBesideLadders.T8 : Bool × List (List Nat × List Nat) := (true, [([], []), ([0], [0]), ([], []), ([2, 1], [2]), ([1, 3, 3], [1, 3]), ([4], [4]), ([5], [5]), ([5], [5]), ([], []), ([8, 6, 4, 0, 1, 2, 3, 4, 5, 6, 8], [6, 8]), ([7, 9, 0, 1, 2, 3, 4, 5, 6, 7, 8, 9], [7])])
def laws_FnExactBesideLadders.B8 : List Nat := [0, 1, 0, 7, 15, 31, 63, 63, 0, 383, 1023]
theorem laws_FnExactBesideLadders.tab8 : rtab .any (opsOf Try.f9 8) = laws_FnExactBesideLadders.T8 := by kernel_rfl
theorem laws_FnExactBesideLadders.bits8 : waitsOk laws_FnExactBesideLadders.T8.2 laws_FnExactBesideLadders.B8 = true := by kernel_rfl
def laws_FnExactBesideLadders.T31 : Bool × List (List Nat × List Nat) := (true, [([], []), ([0], [0]), ([], []), ([2, 1], [2]), ([1, 3, 3], [1, 3]), ([4], [4]), ([5], [5]), ([5], [5]), ([], []), ([8, 6, 4, 0, 1, 2, 3, 4, 5, 6, 8], [6, 8]), ([7, 9, 0, 1, 2, 3, 4, 5, 6, 7, 8, 9], [7])])
def laws_FnExactBesideLadders.B31 : List Nat := [0, 1, 0, 7, 15, 31, 63, 63, 0, 383, 1023]
theorem laws_FnExactBesideLadders.tab31 : rtab .any (opsOf Try.f9 31) = laws_FnExactBesideLadders.T31 := by kernel_rfl
theorem laws_FnExactBesideLadders.bits31 : waitsOk laws_FnExactBesideLadders.T31.2 laws_FnExactBesideLadders.B31 = true := by kernel_rfl
set_option maxHeartbeats 8000000 in
set_option maxRecDepth 100000 in
theorem laws_FnExactBesideLadders.calls (k : Nat) (a0_0 : Int) (A0_1 : Option Addr) (c0_1 : Nat) (l0_1 : List Int) (a1_0 : Int) (A1_1 : Option Addr) (c1_1 : Nat) (l1_1 : List Int) (r : Bool) (w : World) (hr0_1 : Kd.C (Kd.int .i64) w A0_1 l0_1.length l0_1) (hc0_1 : l0_1.length ≤ c0_1) (hr1_1 : Kd.C (Kd.int .i64) w A1_1 l1_1.length l1_1) (hc1_1 : l1_1.length ≤ c1_1) (h : laws_FnExactBesideLadders.f k a0_0 l0_1 a1_0 l1_1 = some r) :
 Calls Try.prog 9 #[.agg #[.int .i64 a0_0, .slice A0_1 l0_1.length c0_1], .agg #[.int .i64 a1_0, .slice A1_1 l1_1.length c1_1]] w fun e w' => e = .returned (.bool r) ∧ Below w.heap.size w w' := by
 have hu24 := Try.underlying24
 have hu28 := Try.underlying28
 have HR0_1 := Aside0.mk hr0_1
 have HC0_1 := Aside0.mk hc0_1
 clear hr0_1 hc0_1
 have HR1_1 := Aside0.mk hr1_1
 have HC1_1 := Aside0.mk hc1_1
 clear hr1_1 hc1_1
 have HB := Aside0.mk (Below.refl w.heap.size w)
 have H : ((laws_szLadder.f a0_0 l0_1 1048576).bind fun t548 => (if t548 < 0 then (some true) else ((laws_szLadder.f a1_0 l1_1 t548).bind fun t549 => (if t549 < 0 then (some true) else ((laws_toLadder.f k a0_0 l0_1).bind fun bt550 => ((laws_toLadder.f k a1_0 l1_1).bind fun bt554 => ((spec_BesideLadders.f k bt550.1 bt550.2 bt554.1 bt554.2).bind fun bt558 => ((laws_toLadder.f k a0_0 l0_1).bind fun bt564 => ((laws_toLadder.f k a1_0 l1_1).bind fun bt569 => ((impl_BesideLadders.f k bt564.1 bt564.2 bt569.1 bt569.2).bind fun bt574 => ((laws_eqLadder.f k bt574.1 bt574.2.1 bt558.1 bt558.2.1).bind fun t580 => (if t580 = true then (if (bt574.2.2 != bt558.2.2) = true then (none) else ((laws_toLadder.f k a0_0 l0_1).bind fun bt581 => ((laws_eqLadder.f k bt564.1 bt564.2 bt581.1 bt581.2).bind fun t585 => (if t585 = true then ((laws_toLadder.f k a1_0 l1_1).bind fun bt586 => ((laws_eqLadder.f k bt569.1 bt569.2 bt586.1 bt586.2).bind fun t590 => (if t590 = true then ((laws_markLadder.f k bt564.1 bt564.2 1).bind fun bt591 => ((laws_markLadder.f k bt569.1 bt569.2 bt591.1).bind fun bt593 => (if bt593.1 < 0 then (none) else ((laws_eqLadder.f k bt574.1 bt574.2.1 bt558.1 bt558.2.1).bind fun t595 => (if t595 = true then ((laws_markLadder.f k bt574.1 bt574.2.1 1).bind fun bt596 => ((laws_heldLadder.f k bt574.1 bt596.2 1).bind fun t598 => (if t598 < 0 then (none) else (if t598 = bt596.1 then ((laws_toLadder.f k a0_0 l0_1).bind fun bt599 => ((laws_toLadder.f k a1_0 l1_1).bind fun bt603 => ((impl_BesideLadders.f k bt599.1 bt599.2 bt603.1 bt603.2).bind fun bt607 => ((laws_eqLadder.f k bt607.1 bt607.2.1 bt558.1 bt558.2.1).bind fun t613 => (if t613 = true then (if (bt607.2.2 != bt558.2.2) = true then (none) else ((laws_heldLadder.f k bt574.1 bt596.2 1).bind fun t614 => (if t614 < 0 then (none) else (if t614 = bt596.1 then (some true) else (none))))) else (none)))))) else (none))))) else (none)))))) else (none)))) else (none))))) else (none))))))))))))) = some r := h
 clear h
 replace H := Option.bind_eq_some_iff.mp H
 obtain ⟨t548, A30, H⟩ := H
 replace H : (if t548 < 0 then (some true) else ((laws_szLadder.f a1_0 l1_1 t548).bind fun t549 => (if t549 < 0 then (some true) else ((laws_toLadder.f k a0_0 l0_1).bind fun bt550 => ((laws_toLadder.f k a1_0 l1_1).bind fun bt554 => ((spec_BesideLadders.f k bt550.1 bt550.2 bt554.1 bt554.2).bind fun bt558 => ((laws_toLadder.f k a0_0 l0_1).bind fun bt564 => ((laws_toLadder.f k a1_0 l1_1).bind fun bt569 => ((impl_BesideLadders.f k bt564.1 bt564.2 bt569.1 bt569.2).bind fun bt574 => ((laws_eqLadder.f k bt574.1 bt574.2.1 bt558.1 bt558.2.1).bind fun t580 => (if t580 = true then (if (bt574.2.2 != bt558.2.2) = true then (none) else ((laws_toLadder.f k a0_0 l0_1).bind fun bt581 => ((laws_eqLadder.f k bt564.1 bt564.2 bt581.1 bt581.2).bind fun t585 => (if t585 = true then ((laws_toLadder.f k a1_0 l1_1).bind fun bt586 => ((laws_eqLadder.f k bt569.1 bt569.2 bt586.1 bt586.2).bind fun t590 => (if t590 = true then ((laws_markLadder.f k bt564.1 bt564.2 1).bind fun bt591 => ((laws_markLadder.f k bt569.1 bt569.2 bt591.1).bind fun bt593 => (if bt593.1 < 0 then (none) else ((laws_eqLadder.f k bt574.1 bt574.2.1 bt558.1 bt558.2.1).bind fun t595 => (if t595 = true then ((laws_markLadder.f k bt574.1 bt574.2.1 1).bind fun bt596 => ((laws_heldLadder.f k bt574.1 bt596.2 1).bind fun t598 => (if t598 < 0 then (none) else (if t598 = bt596.1 then ((laws_toLadder.f k a0_0 l0_1).bind fun bt599 => ((laws_toLadder.f k a1_0 l1_1).bind fun bt603 => ((impl_BesideLadders.f k bt599.1 bt599.2 bt603.1 bt603.2).bind fun bt607 => ((laws_eqLadder.f k bt607.1 bt607.2.1 bt558.1 bt558.2.1).bind fun t613 => (if t613 = true then (if (bt607.2.2 != bt558.2.2) = true then (none) else ((laws_heldLadder.f k bt574.1 bt596.2 1).bind fun t614 => (if t614 < 0 then (none) else (if t614 = bt596.1 then (some true) else (none))))) else (none)))))) else (none))))) else (none)))))) else (none)))) else (none))))) else (none)))))))))))) = some r := H
 have A3 := Aside0.mk A30
 clear A30
 by_cases c4 : t548 < 0
 ·rw [if_pos c4] at H
  have c4b0 : decide (t548 < 0) = true := decide_eq_true c4
  clear c4
  obtain rfl := Option.some.inj H
  go_enter Try.func9, Try.ntmps9
  go_wp2_with (first | ((with_reducible refine gate_dst (N := 2) rfl ?_); refine box_event ?hg (N := 2) ?hd (cs := #[.int .i64 a0_0, .slice A0_1 l0_1.length c0_1]) (t := 24) ?hr ?_; (case hd => rfl); (case hg => rfl); (case hr => first | (go_simp; done) | (go_simp; rfl)); intro gb546 hg w5 hbox hb; have BK546 := Aside0.mk (hbox); have GW546 := Aside0.mk ((by rw [hg]; exact (below_size (Bl_ HB)) : w.heap.size ≤ gb546)); have GE546 := Aside0.mk ((by rw [hg]; exact (below_size (Bl_ HB)) : w.heap.size ≤ gb546)); replace HB := Aside0.mk (below_step (Bl_ HB) hb); clear hb hbox hg) | ((with_reducible refine gate_dst (N := 3) rfl ?_); refine box_event ?hg (N := 3) ?hd (cs := #[.int .i64 a1_0, .slice A1_1 l1_1.length c1_1]) (t := 24) ?hr ?_; (case hd => rfl); (case hg => rfl); (case hr => first | (go_simp; done) | (go_simp; rfl)); intro gb547 hg w6 hbox hb; have BK547 := Aside0.mk (hbox); have GW547 := Aside0.mk ((by rw [hg]; exact (below_size (Bl_ HB)) : w.heap.size ≤ gb547)); have GE547 := Aside0.mk ((by rw [hg]; exact (below_size (Bl_ HB)) : w.heap.size ≤ gb547)); replace HB := Aside0.mk (below_step (Bl_ HB) hb); have NB546_547 := Aside0.mk ((by rw [hg]; exact Nat.ne_of_lt (blk_lt (g := gb546) (o := .cells #[.int .i64 a0_0, .slice A0_1 l0_1.length c0_1] 24 (0, 0)) (bl_ BK546)) : gb546 ≠ gb547)); have NB547_546 := Aside0.mk ((by rw [hg]; exact Nat.ne_of_gt (blk_lt (g := gb546) (o := .cells #[.int .i64 a0_0, .slice A0_1 l0_1.length c0_1] 24 (0, 0)) (bl_ BK546)) : gb547 ≠ gb546)); replace BK546 := blkB_ BK546 hb; clear hb hbox hg; have hnb7 := NB546_547.out; have hnc7 := NB547_546.out; have hcz8_0 : w6.cell? ⟨gb546, 0, none⟩ = some (.int .i64 a0_0) := (blk_cell BK546.out 0).trans rfl; have hcz8_1 : w6.cell? ⟨gb546, 1, none⟩ = some (.slice A0_1 l0_1.length c0_1) := (blk_cell BK546.out 1).trans rfl; have hfz8_0 := blk_frozen BK546.out 0; have hfz8_1 := blk_frozen BK546.out 1) | ((with_reducible refine gate_callee (f := 15) rfl ?_); refine gl_ (some 19) rfl rfl Try.func15 (by kernel_rfl) rfl #[.agg #[.int .i64 a0_0, .slice A0_1 l0_1.length c0_1], .int .i64 1048576] rfl ?_; (with_reducible refine (laws_szLadder.calls a0_0 _ _ l0_1 1048576 t548 _ ?side1 ?side2 A3.out).mono ?_); (case side1 => exact Cl_ (Kd.C_below HR0_1.out HB.out)); (case side2 => exact HC0_1.out); rintro e w9 ⟨rfl, hb⟩; refine ⟨_, rfl, ?_⟩; replace BK546 := blkB_ BK546 hb; replace BK547 := blkB_ BK547 hb; replace HB := Aside0.mk (below_step (Bl_ HB) hb); (try clear hb); (try clear hb2); (try clear hk); (try clear hi)))
  go_ret
  exact ⟨by first | rfl | (simp [errW_none, errW_some] <;> rfl) | (simp [*, errW_none, errW_some] <;> rfl), Bl_ HB⟩
 ·rw [if_neg c4] at H
  have c4b0 : decide (t548 < 0) = false := decide_eq_false c4
  clear c4
  replace H := Option.bind_eq_some_iff.mp H
  obtain ⟨t549, A100, H⟩ := H
  replace H : (if t549 < 0 then (some true) else ((laws_toLadder.f k a0_0 l0_1).bind fun bt550 => ((laws_toLadder.f k a1_0 l1_1).bind fun bt554 => ((spec_BesideLadders.f k bt550.1 bt550.2 bt554.1 bt554.2).bind fun bt558 => ((laws_toLadder.f k a0_0 l0_1).bind fun bt564 => ((laws_toLadder.f k a1_0 l1_1).bind fun bt569 => ((impl_BesideLadders.f k bt564.1 bt564.2 bt569.1 bt569.2).bind fun bt574 => ((laws_eqLadder.f k bt574.1 bt574.2.1 bt558.1 bt558.2.1).bind fun t580 => (if t580 = true then (if (bt574.2.2 != bt558.2.2) = true then (none) else ((laws_toLadder.f k a0_0 l0_1).bind fun bt581 => ((laws_eqLadder.f k bt564.1 bt564.2 bt581.1 bt581.2).bind fun t585 => (if t585 = true then ((laws_toLadder.f k a1_0 l1_1).bind fun bt586 => ((laws_eqLadder.f k bt569.1 bt569.2 bt586.1 bt586.2).bind fun t590 => (if t590 = true then ((laws_markLadder.f k bt564.1 bt564.2 1).bind fun bt591 => ((laws_markLadder.f k bt569.1 bt569.2 bt591.1).bind fun bt593 => (if bt593.1 < 0 then (none) else ((laws_eqLadder.f k bt574.1 bt574.2.1 bt558.1 bt558.2.1).bind fun t595 => (if t595 = true then ((laws_markLadder.f k bt574.1 bt574.2.1 1).bind fun bt596 => ((laws_heldLadder.f k bt574.1 bt596.2 1).bind fun t598 => (if t598 < 0 then (none) else (if t598 = bt596.1 then ((laws_toLadder.f k a0_0 l0_1).bind fun bt599 => ((laws_toLadder.f k a1_0 l1_1).bind fun bt603 => ((impl_BesideLadders.f k bt599.1 bt599.2 bt603.1 bt603.2).bind fun bt607 => ((laws_eqLadder.f k bt607.1 bt607.2.1 bt558.1 bt558.2.1).bind fun t613 => (if t613 = true then (if (bt607.2.2 != bt558.2.2) = true then (none) else ((laws_heldLadder.f k bt574.1 bt596.2 1).bind fun t614 => (if t614 < 0 then (none) else (if t614 = bt596.1 then (some true) else (none))))) else (none)))))) else (none))))) else (none)))))) else (none)))) else (none))))) else (none)))))))))) = some r := H
  have A10 := Aside0.mk A100
  clear A100
  by_cases c11 : t549 < 0
  ·rw [if_pos c11] at H
   have c11b0 : decide (t549 < 0) = true := decide_eq_true c11
   clear c11
   obtain rfl := Option.some.inj H
   go_enter Try.func9, Try.ntmps9
   go_wp2_with (first | ((with_reducible refine gate_dst (N := 2) rfl ?_); refine box_event ?hg (N := 2) ?hd (cs := #[.int .i64 a0_0, .slice A0_1 l0_1.length c0_1]) (t := 24) ?hr ?_; (case hd => rfl); (case hg => rfl); (case hr => first | (go_simp; done) | (go_simp; rfl)); intro gb546 hg w12 hbox hb; have BK546 := Aside0.mk (hbox); have GW546 := Aside0.mk ((by rw [hg]; exact (below_size (Bl_ HB)) : w.heap.size ≤ gb546)); have GE546 := Aside0.mk ((by rw [hg]; exact (below_size (Bl_ HB)) : w.heap.size ≤ gb546)); replace HB := Aside0.mk (below_step (Bl_ HB) hb); clear hb hbox hg) | ((with_reducible refine gate_dst (N := 3) rfl ?_); refine box_event ?hg (N := 3) ?hd (cs := #[.int .i64 a1_0, .slice A1_1 l1_1.length c1_1]) (t := 24) ?hr ?_; (case hd => rfl); (case hg => rfl); (case hr => first | (go_simp; done) | (go_simp; rfl)); intro gb547 hg w13 hbox hb; have BK547 := Aside0.mk (hbox); have GW547 := Aside0.mk ((by rw [hg]; exact (below_size (Bl_ HB)) : w.heap.size ≤ gb547)); have GE547 := Aside0.mk ((by rw [hg]; exact (below_size (Bl_ HB)) : w.heap.size ≤ gb547)); replace HB := Aside0.mk (below_step (Bl_ HB) hb); have NB546_547 := Aside0.mk ((by rw [hg]; exact Nat.ne_of_lt (blk_lt (g := gb546) (o := .cells #[.int .i64 a0_0, .slice A0_1 l0_1.length c0_1] 24 (0, 0)) (bl_ BK546)) : gb546 ≠ gb547)); have NB547_546 := Aside0.mk ((by rw [hg]; exact Nat.ne_of_gt (blk_lt (g := gb546) (o := .cells #[.int .i64 a0_0, .slice A0_1 l0_1.length c0_1] 24 (0, 0)) (bl_ BK546)) : gb547 ≠ gb546)); replace BK546 := blkB_ BK546 hb; clear hb hbox hg; have hnb14 := NB546_547.out; have hnc14 := NB547_546.out; have hcz15_0 : w13.cell? ⟨gb546, 0, none⟩ = some (.int .i64 a0_0) := (blk_cell BK546.out 0).trans rfl; have hcz15_1 : w13.cell? ⟨gb546, 1, none⟩ = some (.slice A0_1 l0_1.length c0_1) := (blk_cell BK546.out 1).trans rfl; have hfz15_0 := blk_frozen BK546.out 0; have hfz15_1 := blk_frozen BK546.out 1) | ((with_reducible refine gate_callee (f := 15) rfl ?_); refine gl_ (some 19) rfl rfl Try.func15 (by kernel_rfl) rfl #[.agg #[.int .i64 a0_0, .slice A0_1 l0_1.length c0_1], .int .i64 1048576] rfl ?_; (with_reducible refine (laws_szLadder.calls a0_0 _ _ l0_1 1048576 t548 _ ?side1 ?side2 A3.out).mono ?_); (case side1 => exact Cl_ (Kd.C_below HR0_1.out HB.out)); (case side2 => exact HC0_1.out); rintro e w16 ⟨rfl, hb⟩; refine ⟨_, rfl, ?_⟩; replace BK546 := blkB_ BK546 hb; replace BK547 := blkB_ BK547 hb; replace HB := Aside0.mk (below_step (Bl_ HB) hb); (try clear hb); (try clear hb2); (try clear hk); (try clear hi); have hcz17_0 : w16.cell? ⟨gb547, 0, none⟩ = some (.int .i64 a1_0) := (blk_cell BK547.out 0).trans rfl; have hcz17_1 : w16.cell? ⟨gb547, 1, none⟩ = some (.slice A1_1 l1_1.length c1_1) := (blk_cell BK547.out 1).trans rfl; have hfz17_0 := blk_frozen BK547.out 0; have hfz17_1 := blk_frozen BK547.out 1) | ((with_reducible refine gate_callee (f := 15) rfl ?_); refine gl_ (some 24) rfl rfl Try.func15 (by kernel_rfl) rfl #[.agg #[.int .i64 a1_0, .slice A1_1 l1_1.length c1_1], .int .i64 t548] rfl ?_; (with_reducible refine (laws_szLadder.calls a1_0 _ _ l1_1 t548 t549 _ ?side1 ?side2 A10.out).mono ?_); (case side1 => exact Cl_ (Kd.C_below HR1_1.out HB.out)); (case side2 => exact HC1_1.out); rintro e w18 ⟨rfl, hb⟩; refine ⟨_, rfl, ?_⟩; replace BK546 := blkB_ BK546 hb; replace BK547 := blkB_ BK547 hb; replace HB := Aside0.mk (below_step (Bl_ HB) hb); (try clear hb); (try clear hb2); (try clear hk); (try clear hi)))
   go_ret
   exact ⟨by first | rfl | (simp [errW_none, errW_some] <;> rfl) | (simp [*, errW_none, errW_some] <;> rfl), Bl_ HB⟩
  ·rw [if_neg c11] at H
   have c11b0 : decide (t549 < 0) = false := decide_eq_false c11
   clear c11
   replace H := Option.bind_eq_some_iff.mp H
   obtain ⟨⟨t550, t551⟩, A190, H⟩ := H
   replace H : ((laws_toLadder.f k a1_0 l1_1).bind fun bt554 => ((spec_BesideLadders.f k t550 t551 bt554.1 bt554.2).bind fun bt558 => ((laws_toLadder.f k a0_0 l0_1).bind fun bt564 => ((laws_toLadder.f k a1_0 l1_1).bind fun bt569 => ((impl_BesideLadders.f k bt564.1 bt564.2 bt569.1 bt569.2).bind fun bt574 => ((laws_eqLadder.f k bt574.1 bt574.2.1 bt558.1 bt558.2.1).bind fun t580 => (if t580 = true then (if (bt574.2.2 != bt558.2.2) = true then (none) else ((laws_toLadder.f k a0_0 l0_1).bind fun bt581 => ((laws_eqLadder.f k bt564.1 bt564.2 bt581.1 bt581.2).bind fun t585 => (if t585 = true then ((laws_toLadder.f k a1_0 l1_1).bind fun bt586 => ((laws_eqLadder.f k bt569.1 bt569.2 bt586.1 bt586.2).bind fun t590 => (if t590 = true then ((laws_markLadder.f k bt564.1 bt564.2 1).bind fun bt591 => ((laws_markLadder.f k bt569.1 bt569.2 bt591.1).bind fun bt593 => (if bt593.1 < 0 then (none) else ((laws_eqLadder.f k bt574.1 bt574.2.1 bt558.1 bt558.2.1).bind fun t595 => (if t595 = true then ((laws_markLadder.f k bt574.1 bt574.2.1 1).bind fun bt596 => ((laws_heldLadder.f k bt574.1 bt596.2 1).bind fun t598 => (if t598 < 0 then (none) else (if t598 = bt596.1 then ((laws_toLadder.f k a0_0 l0_1).bind fun bt599 => ((laws_toLadder.f k a1_0 l1_1).bind fun bt603 => ((impl_BesideLadders.f k bt599.1 bt599.2 bt603.1 bt603.2).bind fun bt607 => ((laws_eqLadder.f k bt607.1 bt607.2.1 bt558.1 bt558.2.1).bind fun t613 => (if t613 = true then (if (bt607.2.2 != bt558.2.2) = true then (none) else ((laws_heldLadder.f k bt574.1 bt596.2 1).bind fun t614 => (if t614 < 0 then (none) else (if t614 = bt596.1 then (some true) else (none))))) else (none)))))) else (none))))) else (none)))))) else (none)))) else (none))))) else (none)))))))) = some r := H
   have A19 := Aside0.mk A190
   clear A190
   replace H := Option.bind_eq_some_iff.mp H
   obtain ⟨⟨t554, t555⟩, A200, H⟩ := H
   replace H : ((spec_BesideLadders.f k t550 t551 t554 t555).bind fun bt558 => ((laws_toLadder.f k a0_0 l0_1).bind fun bt564 => ((laws_toLadder.f k a1_0 l1_1).bind fun bt569 => ((impl_BesideLadders.f k bt564.1 bt564.2 bt569.1 bt569.2).bind fun bt574 => ((laws_eqLadder.f k bt574.1 bt574.2.1 bt558.1 bt558.2.1).bind fun t580 => (if t580 = true then (if (bt574.2.2 != bt558.2.2) = true then (none) else ((laws_toLadder.f k a0_0 l0_1).bind fun bt581 => ((laws_eqLadder.f k bt564.1 bt564.2 bt581.1 bt581.2).bind fun t585 => (if t585 = true then ((laws_toLadder.f k a1_0 l1_1).bind fun bt586 => ((laws_eqLadder.f k bt569.1 bt569.2 bt586.1 bt586.2).bind fun t590 => (if t590 = true then ((laws_markLadder.f k bt564.1 bt564.2 1).bind fun bt591 => ((laws_markLadder.f k bt569.1 bt569.2 bt591.1).bind fun bt593 => (if bt593.1 < 0 then (none) else ((laws_eqLadder.f k bt574.1 bt574.2.1 bt558.1 bt558.2.1).bind fun t595 => (if t595 = true then ((laws_markLadder.f k bt574.1 bt574.2.1 1).bind fun bt596 => ((laws_heldLadder.f k bt574.1 bt596.2 1).bind fun t598 => (if t598 < 0 then (none) else (if t598 = bt596.1 then ((laws_toLadder.f k a0_0 l0_1).bind fun bt599 => ((laws_toLadder.f k a1_0 l1_1).bind fun bt603 => ((impl_BesideLadders.f k bt599.1 bt599.2 bt603.1 bt603.2).bind fun bt607 => ((laws_eqLadder.f k bt607.1 bt607.2.1 bt558.1 bt558.2.1).bind fun t613 => (if t613 = true then (if (bt607.2.2 != bt558.2.2) = true then (none) else ((laws_heldLadder.f k bt574.1 bt596.2 1).bind fun t614 => (if t614 < 0 then (none) else (if t614 = bt596.1 then (some true) else (none))))) else (none)))))) else (none))))) else (none)))))) else (none)))) else (none))))) else (none))))))) = some r := H
   have A20 := Aside0.mk A200
   clear A200
   replace H := Option.bind_eq_some_iff.mp H
   obtain ⟨⟨t558, t559, t562⟩, A210, H⟩ := H
   replace H : ((laws_toLadder.f k a0_0 l0_1).bind fun bt564 => ((laws_toLadder.f k a1_0 l1_1).bind fun bt569 => ((impl_BesideLadders.f k bt564.1 bt564.2 bt569.1 bt569.2).bind fun bt574 => ((laws_eqLadder.f k bt574.1 bt574.2.1 t558 t559).bind fun t580 => (if t580 = true then (if (bt574.2.2 != t562) = true then (none) else ((laws_toLadder.f k a0_0 l0_1).bind fun bt581 => ((laws_eqLadder.f k bt564.1 bt564.2 bt581.1 bt581.2).bind fun t585 => (if t585 = true then ((laws_toLadder.f k a1_0 l1_1).bind fun bt586 => ((laws_eqLadder.f k bt569.1 bt569.2 bt586.1 bt586.2).bind fun t590 => (if t590 = true then ((laws_markLadder.f k bt564.1 bt564.2 1).bind fun bt591 => ((laws_markLadder.f k bt569.1 bt569.2 bt591.1).bind fun bt593 => (if bt593.1 < 0 then (none) else ((laws_eqLadder.f k bt574.1 bt574.2.1 t558 t559).bind fun t595 => (if t595 = true then ((laws_markLadder.f k bt574.1 bt574.2.1 1).bind fun bt596 => ((laws_heldLadder.f k bt574.1 bt596.2 1).bind fun t598 => (if t598 < 0 then (none) else (if t598 = bt596.1 then ((laws_toLadder.f k a0_0 l0_1).bind fun bt599 => ((laws_toLadder.f k a1_0 l1_1).bind fun bt603 => ((impl_BesideLadders.f k bt599.1 bt599.2 bt603.1 bt603.2).bind fun bt607 => ((laws_eqLadder.f k bt607.1 bt607.2.1 t558 t559).bind fun t613 => (if t613 = true then (if (bt607.2.2 != t562) = true then (none) else ((laws_heldLadder.f k bt574.1 bt596.2 1).bind fun t614 => (if t614 < 0 then (none) else (if t614 = bt596.1 then (some true) else (none))))) else (none)))))) else (none))))) else (none)))))) else (none)))) else (none))))) else (none)))))) = some r := H
   have A21 := Aside0.mk A210
   clear A210
   replace H := Option.bind_eq_some_iff.mp H
   obtain ⟨⟨t564, t565⟩, A220, H⟩ := H
   replace H : ((laws_toLadder.f k a1_0 l1_1).bind fun bt569 => ((impl_BesideLadders.f k t564 t565 bt569.1 bt569.2).bind fun bt574 => ((laws_eqLadder.f k bt574.1 bt574.2.1 t558 t559).bind fun t580 => (if t580 = true then (if (bt574.2.2 != t562) = true then (none) else ((laws_toLadder.f k a0_0 l0_1).bind fun bt581 => ((laws_eqLadder.f k t564 t565 bt581.1 bt581.2).bind fun t585 => (if t585 = true then ((laws_toLadder.f k a1_0 l1_1).bind fun bt586 => ((laws_eqLadder.f k bt569.1 bt569.2 bt586.1 bt586.2).bind fun t590 => (if t590 = true then ((laws_markLadder.f k t564 t565 1).bind fun bt591 => ((laws_markLadder.f k bt569.1 bt569.2 bt591.1).bind fun bt593 => (if bt593.1 < 0 then (none) else ((laws_eqLadder.f k bt574.1 bt574.2.1 t558 t559).bind fun t595 => (if t595 = true then ((laws_markLadder.f k bt574.1 bt574.2.1 1).bind fun bt596 => ((laws_heldLadder.f k bt574.1 bt596.2 1).bind fun t598 => (if t598 < 0 then (none) else (if t598 = bt596.1 then ((laws_toLadder.f k a0_0 l0_1).bind fun bt599 => ((laws_toLadder.f k a1_0 l1_1).bind fun bt603 => ((impl_BesideLadders.f k bt599.1 bt599.2 bt603.1 bt603.2).bind fun bt607 => ((laws_eqLadder.f k bt607.1 bt607.2.1 t558 t559).bind fun t613 => (if t613 = true then (if (bt607.2.2 != t562) = true then (none) else ((laws_heldLadder.f k bt574.1 bt596.2 1).bind fun t614 => (if t614 < 0 then (none) else (if t614 = bt596.1 then (some true) else (none))))) else (none)))))) else (none))))) else (none)))))) else (none)))) else (none))))) else (none))))) = some r := H
   have A22 := Aside0.mk A220
   clear A220
   replace H := Option.bind_eq_some_iff.mp H
   obtain ⟨⟨t569, t570⟩, A230, H⟩ := H
   replace H : ((impl_BesideLadders.f k t564 t565 t569 t570).bind fun bt574 => ((laws_eqLadder.f k bt574.1 bt574.2.1 t558 t559).bind fun t580 => (if t580 = true then (if (bt574.2.2 != t562) = true then (none) else ((laws_toLadder.f k a0_0 l0_1).bind fun bt581 => ((laws_eqLadder.f k t564 t565 bt581.1 bt581.2).bind fun t585 => (if t585 = true then ((laws_toLadder.f k a1_0 l1_1).bind fun bt586 => ((laws_eqLadder.f k t569 t570 bt586.1 bt586.2).bind fun t590 => (if t590 = true then ((laws_markLadder.f k t564 t565 1).bind fun bt591 => ((laws_markLadder.f k t569 t570 bt591.1).bind fun bt593 => (if bt593.1 < 0 then (none) else ((laws_eqLadder.f k bt574.1 bt574.2.1 t558 t559).bind fun t595 => (if t595 = true then ((laws_markLadder.f k bt574.1 bt574.2.1 1).bind fun bt596 => ((laws_heldLadder.f k bt574.1 bt596.2 1).bind fun t598 => (if t598 < 0 then (none) else (if t598 = bt596.1 then ((laws_toLadder.f k a0_0 l0_1).bind fun bt599 => ((laws_toLadder.f k a1_0 l1_1).bind fun bt603 => ((impl_BesideLadders.f k bt599.1 bt599.2 bt603.1 bt603.2).bind fun bt607 => ((laws_eqLadder.f k bt607.1 bt607.2.1 t558 t559).bind fun t613 => (if t613 = true then (if (bt607.2.2 != t562) = true then (none) else ((laws_heldLadder.f k bt574.1 bt596.2 1).bind fun t614 => (if t614 < 0 then (none) else (if t614 = bt596.1 then (some true) else (none))))) else (none)))))) else (none))))) else (none)))))) else (none)))) else (none))))) else (none)))) = some r := H
   have A23 := Aside0.mk A230
   clear A230
   replace H := Option.bind_eq_some_iff.mp H
   obtain ⟨⟨t574, t575, t578⟩, A240, H⟩ := H
   replace H : ((laws_eqLadder.f k t574 t575 t558 t559).bind fun t580 => (if t580 = true then (if (t578 != t562) = true then (none) else ((laws_toLadder.f k a0_0 l0_1).bind fun bt581 => ((laws_eqLadder.f k t564 t565 bt581.1 bt581.2).bind fun t585 => (if t585 = true then ((laws_toLadder.f k a1_0 l1_1).bind fun bt586 => ((laws_eqLadder.f k t569 t570 bt586.1 bt586.2).bind fun t590 => (if t590 = true then ((laws_markLadder.f k t564 t565 1).bind fun bt591 => ((laws_markLadder.f k t569 t570 bt591.1).bind fun bt593 => (if bt593.1 < 0 then (none) else ((laws_eqLadder.f k t574 t575 t558 t559).bind fun t595 => (if t595 = true then ((laws_markLadder.f k t574 t575 1).bind fun bt596 => ((laws_heldLadder.f k t574 bt596.2 1).bind fun t598 => (if t598 < 0 then (none) else (if t598 = bt596.1 then ((laws_toLadder.f k a0_0 l0_1).bind fun bt599 => ((laws_toLadder.f k a1_0 l1_1).bind fun bt603 => ((impl_BesideLadders.f k bt599.1 bt599.2 bt603.1 bt603.2).bind fun bt607 => ((laws_eqLadder.f k bt607.1 bt607.2.1 t558 t559).bind fun t613 => (if t613 = true then (if (bt607.2.2 != t562) = true then (none) else ((laws_heldLadder.f k t574 bt596.2 1).bind fun t614 => (if t614 < 0 then (none) else (if t614 = bt596.1 then (some true) else (none))))) else (none)))))) else (none))))) else (none)))))) else (none)))) else (none))))) else (none))) = some r := H
   have A24 := Aside0.mk A240
   clear A240
   replace H := Option.bind_eq_some_iff.mp H
   obtain ⟨t580, A250, H⟩ := H
   replace H : (if t580 = true then (if (t578 != t562) = true then (none) else ((laws_toLadder.f k a0_0 l0_1).bind fun bt581 => ((laws_eqLadder.f k t564 t565 bt581.1 bt581.2).bind fun t585 => (if t585 = true then ((laws_toLadder.f k a1_0 l1_1).bind fun bt586 => ((laws_eqLadder.f k t569 t570 bt586.1 bt586.2).bind fun t590 => (if t590 = true then ((laws_markLadder.f k t564 t565 1).bind fun bt591 => ((laws_markLadder.f k t569 t570 bt591.1).bind fun bt593 => (if bt593.1 < 0 then (none) else ((laws_eqLadder.f k t574 t575 t558 t559).bind fun t595 => (if t595 = true then ((laws_markLadder.f k t574 t575 1).bind fun bt596 => ((laws_heldLadder.f k t574 bt596.2 1).bind fun t598 => (if t598 < 0 then (none) else (if t598 = bt596.1 then ((laws_toLadder.f k a0_0 l0_1).bind fun bt599 => ((laws_toLadder.f k a1_0 l1_1).bind fun bt603 => ((impl_BesideLadders.f k bt599.1 bt599.2 bt603.1 bt603.2).bind fun bt607 => ((laws_eqLadder.f k bt607.1 bt607.2.1 t558 t559).bind fun t613 => (if t613 = true then (if (bt607.2.2 != t562) = true then (none) else ((laws_heldLadder.f k t574 bt596.2 1).bind fun t614 => (if t614 < 0 then (none) else (if t614 = bt596.1 then (some true) else (none))))) else (none)))))) else (none))))) else (none)))))) else (none)))) else (none))))) else (none)) = some r := H
   have A25 := Aside0.mk A250
   clear A250
   by_cases c26 : t580 = true
   ·subst c26
    have H1 : (if (t578 != t562) = true then (none) else ((laws_toLadder.f k a0_0 l0_1).bind fun bt581 => ((laws_eqLadder.f k t564 t565 bt581.1 bt581.2).bind fun t585 => (if t585 = true then ((laws_toLadder.f k a1_0 l1_1).bind fun bt586 => ((laws_eqLadder.f k t569 t570 bt586.1 bt586.2).bind fun t590 => (if t590 = true then ((laws_markLadder.f k t564 t565 1).bind fun bt591 => ((laws_markLadder.f k t569 t570 bt591.1).bind fun bt593 => (if bt593.1 < 0 then (none) else ((laws_eqLadder.f k t574 t575 t558 t559).bind fun t595 => (if t595 = true then ((laws_markLadder.f k t574 t575 1).bind fun bt596 => ((laws_heldLadder.f k t574 bt596.2 1).bind fun t598 => (if t598 < 0 then (none) else (if t598 = bt596.1 then ((laws_toLadder.f k a0_0 l0_1).bind fun bt599 => ((laws_toLadder.f k a1_0 l1_1).bind fun bt603 => ((impl_BesideLadders.f k bt599.1 bt599.2 bt603.1 bt603.2).bind fun bt607 => ((laws_eqLadder.f k bt607.1 bt607.2.1 t558 t559).bind fun t613 => (if t613 = true then (if (bt607.2.2 != t562) = true then (none) else ((laws_heldLadder.f k t574 bt596.2 1).bind fun t614 => (if t614 < 0 then (none) else (if t614 = bt596.1 then (some true) else (none))))) else (none)))))) else (none))))) else (none)))))) else (none)))) else (none))))) = some r := by rw [if_pos rfl] at H; exact H
    clear H
    have H := H1
    clear H1
    by_cases c27 : (t578 != t562) = true
    ·rw [if_pos c27] at H
     exact absurd H (by simp)
    ·rw [if_neg c27] at H
     have c27b0 : (t578 != t562) = false := by simpa using c27
     (try (have c27b1 : decide (t578 = t562) = true := by simpa using c27))
     (try (have c27b2 : (t578 == t562) = true := by simpa using c27))
     clear c27
     replace H := Option.bind_eq_some_iff.mp H
     obtain ⟨⟨t581, t582⟩, A280, H⟩ := H
     replace H : ((laws_eqLadder.f k t564 t565 t581 t582).bind fun t585 => (if t585 = true then ((laws_toLadder.f k a1_0 l1_1).bind fun bt586 => ((laws_eqLadder.f k t569 t570 bt586.1 bt586.2).bind fun t590 => (if t590 = true then ((laws_markLadder.f k t564 t565 1).bind fun bt591 => ((laws_markLadder.f k t569 t570 bt591.1).bind fun bt593 => (if bt593.1 < 0 then (none) else ((laws_eqLadder.f k t574 t575 t558 t559).bind fun t595 => (if t595 = true then ((laws_markLadder.f k t574 t575 1).bind fun bt596 => ((laws_heldLadder.f k t574 bt596.2 1).bind fun t598 => (if t598 < 0 then (none) else (if t598 = bt596.1 then ((laws_toLadder.f k a0_0 l0_1).bind fun bt599 => ((laws_toLadder.f k a1_0 l1_1).bind fun bt603 => ((impl_BesideLadders.f k bt599.1 bt599.2 bt603.1 bt603.2).bind fun bt607 => ((laws_eqLadder.f k bt607.1 bt607.2.1 t558 t559).bind fun t613 => (if t613 = true then (if (bt607.2.2 != t562) = true then (none) else ((laws_heldLadder.f k t574 bt596.2 1).bind fun t614 => (if t614 < 0 then (none) else (if t614 = bt596.1 then (some true) else (none))))) else (none)))))) else (none))))) else (none)))))) else (none)))) else (none))) = some r := H
     have A28 := Aside0.mk A280
     clear A280
     replace H := Option.bind_eq_some_iff.mp H
     obtain ⟨t585, A290, H⟩ := H
     replace H : (if t585 = true then ((laws_toLadder.f k a1_0 l1_1).bind fun bt586 => ((laws_eqLadder.f k t569 t570 bt586.1 bt586.2).bind fun t590 => (if t590 = true then ((laws_markLadder.f k t564 t565 1).bind fun bt591 => ((laws_markLadder.f k t569 t570 bt591.1).bind fun bt593 => (if bt593.1 < 0 then (none) else ((laws_eqLadder.f k t574 t575 t558 t559).bind fun t595 => (if t595 = true then ((laws_markLadder.f k t574 t575 1).bind fun bt596 => ((laws_heldLadder.f k t574 bt596.2 1).bind fun t598 => (if t598 < 0 then (none) else (if t598 = bt596.1 then ((laws_toLadder.f k a0_0 l0_1).bind fun bt599 => ((laws_toLadder.f k a1_0 l1_1).bind fun bt603 => ((impl_BesideLadders.f k bt599.1 bt599.2 bt603.1 bt603.2).bind fun bt607 => ((laws_eqLadder.f k bt607.1 bt607.2.1 t558 t559).bind fun t613 => (if t613 = true then (if (bt607.2.2 != t562) = true then (none) else ((laws_heldLadder.f k t574 bt596.2 1).bind fun t614 => (if t614 < 0 then (none) else (if t614 = bt596.1 then (some true) else (none))))) else (none)))))) else (none))))) else (none)))))) else (none)))) else (none)) = some r := H
     have A29 := Aside0.mk A290
     clear A290
     by_cases c30 : t585 = true
     ·subst c30
      have H1 : ((laws_toLadder.f k a1_0 l1_1).bind fun bt586 => ((laws_eqLadder.f k t569 t570 bt586.1 bt586.2).bind fun t590 => (if t590 = true then ((laws_markLadder.f k t564 t565 1).bind fun bt591 => ((laws_markLadder.f k t569 t570 bt591.1).bind fun bt593 => (if bt593.1 < 0 then (none) else ((laws_eqLadder.f k t574 t575 t558 t559).bind fun t595 => (if t595 = true then ((laws_markLadder.f k t574 t575 1).bind fun bt596 => ((laws_heldLadder.f k t574 bt596.2 1).bind fun t598 => (if t598 < 0 then (none) else (if t598 = bt596.1 then ((laws_toLadder.f k a0_0 l0_1).bind fun bt599 => ((laws_toLadder.f k a1_0 l1_1).bind fun bt603 => ((impl_BesideLadders.f k bt599.1 bt599.2 bt603.1 bt603.2).bind fun bt607 => ((laws_eqLadder.f k bt607.1 bt607.2.1 t558 t559).bind fun t613 => (if t613 = true then (if (bt607.2.2 != t562) = true then (none) else ((laws_heldLadder.f k t574 bt596.2 1).bind fun t614 => (if t614 < 0 then (none) else (if t614 = bt596.1 then (some true) else (none))))) else (none)))))) else (none))))) else (none)))))) else (none)))) = some r := by rw [if_pos rfl] at H; exact H
      clear H
      have H := H1
      clear H1
      replace H := Option.bind_eq_some_iff.mp H
      obtain ⟨⟨t586, t587⟩, A310, H⟩ := H
      replace H : ((laws_eqLadder.f k t569 t570 t586 t587).bind fun t590 => (if t590 = true then ((laws_markLadder.f k t564 t565 1).bind fun bt591 => ((laws_markLadder.f k t569 t570 bt591.1).bind fun bt593 => (if bt593.1 < 0 then (none) else ((laws_eqLadder.f k t574 t575 t558 t559).bind fun t595 => (if t595 = true then ((laws_markLadder.f k t574 t575 1).bind fun bt596 => ((laws_heldLadder.f k t574 bt596.2 1).bind fun t598 => (if t598 < 0 then (none) else (if t598 = bt596.1 then ((laws_toLadder.f k a0_0 l0_1).bind fun bt599 => ((laws_toLadder.f k a1_0 l1_1).bind fun bt603 => ((impl_BesideLadders.f k bt599.1 bt599.2 bt603.1 bt603.2).bind fun bt607 => ((laws_eqLadder.f k bt607.1 bt607.2.1 t558 t559).bind fun t613 => (if t613 = true then (if (bt607.2.2 != t562) = true then (none) else ((laws_heldLadder.f k t574 bt596.2 1).bind fun t614 => (if t614 < 0 then (none) else (if t614 = bt596.1 then (some true) else (none))))) else (none)))))) else (none))))) else (none)))))) else (none))) = some r := H
      have A31 := Aside0.mk A310
      clear A310
      replace H := Option.bind_eq_some_iff.mp H
      obtain ⟨t590, A320, H⟩ := H
      replace H : (if t590 = true then ((laws_markLadder.f k t564 t565 1).bind fun bt591 => ((laws_markLadder.f k t569 t570 bt591.1).bind fun bt593 => (if bt593.1 < 0 then (none) else ((laws_eqLadder.f k t574 t575 t558 t559).bind fun t595 => (if t595 = true then ((laws_markLadder.f k t574 t575 1).bind fun bt596 => ((laws_heldLadder.f k t574 bt596.2 1).bind fun t598 => (if t598 < 0 then (none) else (if t598 = bt596.1 then ((laws_toLadder.f k a0_0 l0_1).bind fun bt599 => ((laws_toLadder.f k a1_0 l1_1).bind fun bt603 => ((impl_BesideLadders.f k bt599.1 bt599.2 bt603.1 bt603.2).bind fun bt607 => ((laws_eqLadder.f k bt607.1 bt607.2.1 t558 t559).bind fun t613 => (if t613 = true then (if (bt607.2.2 != t562) = true then (none) else ((laws_heldLadder.f k t574 bt596.2 1).bind fun t614 => (if t614 < 0 then (none) else (if t614 = bt596.1 then (some true) else (none))))) else (none)))))) else (none))))) else (none)))))) else (none)) = some r := H
      have A32 := Aside0.mk A320
      clear A320
      by_cases c33 : t590 = true
      ·subst c33
       have H1 : ((laws_markLadder.f k t564 t565 1).bind fun bt591 => ((laws_markLadder.f k t569 t570 bt591.1).bind fun bt593 => (if bt593.1 < 0 then (none) else ((laws_eqLadder.f k t574 t575 t558 t559).bind fun t595 => (if t595 = true then ((laws_markLadder.f k t574 t575 1).bind fun bt596 => ((laws_heldLadder.f k t574 bt596.2 1).bind fun t598 => (if t598 < 0 then (none) else (if t598 = bt596.1 then ((laws_toLadder.f k a0_0 l0_1).bind fun bt599 => ((laws_toLadder.f k a1_0 l1_1).bind fun bt603 => ((impl_BesideLadders.f k bt599.1 bt599.2 bt603.1 bt603.2).bind fun bt607 => ((laws_eqLadder.f k bt607.1 bt607.2.1 t558 t559).bind fun t613 => (if t613 = true then (if (bt607.2.2 != t562) = true then (none) else ((laws_heldLadder.f k t574 bt596.2 1).bind fun t614 => (if t614 < 0 then (none) else (if t614 = bt596.1 then (some true) else (none))))) else (none)))))) else (none))))) else (none)))))) = some r := by rw [if_pos rfl] at H; exact H
       clear H
       have H := H1
       clear H1
       replace H := Option.bind_eq_some_iff.mp H
       obtain ⟨⟨t591, t592⟩, A340, H⟩ := H
       replace H : ((laws_markLadder.f k t569 t570 t591).bind fun bt593 => (if bt593.1 < 0 then (none) else ((laws_eqLadder.f k t574 t575 t558 t559).bind fun t595 => (if t595 = true then ((laws_markLadder.f k t574 t575 1).bind fun bt596 => ((laws_heldLadder.f k t574 bt596.2 1).bind fun t598 => (if t598 < 0 then (none) else (if t598 = bt596.1 then ((laws_toLadder.f k a0_0 l0_1).bind fun bt599 => ((laws_toLadder.f k a1_0 l1_1).bind fun bt603 => ((impl_BesideLadders.f k bt599.1 bt599.2 bt603.1 bt603.2).bind fun bt607 => ((laws_eqLadder.f k bt607.1 bt607.2.1 t558 t559).bind fun t613 => (if t613 = true then (if (bt607.2.2 != t562) = true then (none) else ((laws_heldLadder.f k t574 bt596.2 1).bind fun t614 => (if t614 < 0 then (none) else (if t614 = bt596.1 then (some true) else (none))))) else (none)))))) else (none))))) else (none))))) = some r := H
       have A34 := Aside0.mk A340
       clear A340
       replace H := Option.bind_eq_some_iff.mp H
       obtain ⟨⟨t593, t594⟩, A350, H⟩ := H
       replace H : (if t593 < 0 then (none) else ((laws_eqLadder.f k t574 t575 t558 t559).bind fun t595 => (if t595 = true then ((laws_markLadder.f k t574 t575 1).bind fun bt596 => ((laws_heldLadder.f k t574 bt596.2 1).bind fun t598 => (if t598 < 0 then (none) else (if t598 = bt596.1 then ((laws_toLadder.f k a0_0 l0_1).bind fun bt599 => ((laws_toLadder.f k a1_0 l1_1).bind fun bt603 => ((impl_BesideLadders.f k bt599.1 bt599.2 bt603.1 bt603.2).bind fun bt607 => ((laws_eqLadder.f k bt607.1 bt607.2.1 t558 t559).bind fun t613 => (if t613 = true then (if (bt607.2.2 != t562) = true then (none) else ((laws_heldLadder.f k t574 bt596.2 1).bind fun t614 => (if t614 < 0 then (none) else (if t614 = bt596.1 then (some true) else (none))))) else (none)))))) else (none))))) else (none)))) = some r := H
       have A35 := Aside0.mk A350
       clear A350
       by_cases c36 : t593 < 0
       ·rw [if_pos c36] at H
        exact absurd H (by simp)
       ·rw [if_neg c36] at H
        have c36b0 : decide (t593 < 0) = false := decide_eq_false c36
        clear c36
        replace H := Option.bind_eq_some_iff.mp H
        obtain ⟨t595, A370, H⟩ := H
        replace H : (if t595 = true then ((laws_markLadder.f k t574 t575 1).bind fun bt596 => ((laws_heldLadder.f k t574 bt596.2 1).bind fun t598 => (if t598 < 0 then (none) else (if t598 = bt596.1 then ((laws_toLadder.f k a0_0 l0_1).bind fun bt599 => ((laws_toLadder.f k a1_0 l1_1).bind fun bt603 => ((impl_BesideLadders.f k bt599.1 bt599.2 bt603.1 bt603.2).bind fun bt607 => ((laws_eqLadder.f k bt607.1 bt607.2.1 t558 t559).bind fun t613 => (if t613 = true then (if (bt607.2.2 != t562) = true then (none) else ((laws_heldLadder.f k t574 bt596.2 1).bind fun t614 => (if t614 < 0 then (none) else (if t614 = bt596.1 then (some true) else (none))))) else (none)))))) else (none))))) else (none)) = some r := H
        have A37 := Aside0.mk A370
        clear A370
        by_cases c38 : t595 = true
        ·subst c38
         have H1 : ((laws_markLadder.f k t574 t575 1).bind fun bt596 => ((laws_heldLadder.f k t574 bt596.2 1).bind fun t598 => (if t598 < 0 then (none) else (if t598 = bt596.1 then ((laws_toLadder.f k a0_0 l0_1).bind fun bt599 => ((laws_toLadder.f k a1_0 l1_1).bind fun bt603 => ((impl_BesideLadders.f k bt599.1 bt599.2 bt603.1 bt603.2).bind fun bt607 => ((laws_eqLadder.f k bt607.1 bt607.2.1 t558 t559).bind fun t613 => (if t613 = true then (if (bt607.2.2 != t562) = true then (none) else ((laws_heldLadder.f k t574 bt596.2 1).bind fun t614 => (if t614 < 0 then (none) else (if t614 = bt596.1 then (some true) else (none))))) else (none)))))) else (none))))) = some r := by rw [if_pos rfl] at H; exact H
         clear H
         have H := H1
         clear H1
         replace H := Option.bind_eq_some_iff.mp H
         obtain ⟨⟨t596, t597⟩, A390, H⟩ := H
         replace H : ((laws_heldLadder.f k t574 t597 1).bind fun t598 => (if t598 < 0 then (none) else (if t598 = t596 then ((laws_toLadder.f k a0_0 l0_1).bind fun bt599 => ((laws_toLadder.f k a1_0 l1_1).bind fun bt603 => ((impl_BesideLadders.f k bt599.1 bt599.2 bt603.1 bt603.2).bind fun bt607 => ((laws_eqLadder.f k bt607.1 bt607.2.1 t558 t559).bind fun t613 => (if t613 = true then (if (bt607.2.2 != t562) = true then (none) else ((laws_heldLadder.f k t574 t597 1).bind fun t614 => (if t614 < 0 then (none) else (if t614 = t596 then (some true) else (none))))) else (none)))))) else (none)))) = some r := H
         have A39 := Aside0.mk A390
         clear A390
         replace H := Option.bind_eq_some_iff.mp H
         obtain ⟨t598, A400, H⟩ := H
         replace H : (if t598 < 0 then (none) else (if t598 = t596 then ((laws_toLadder.f k a0_0 l0_1).bind fun bt599 => ((laws_toLadder.f k a1_0 l1_1).bind fun bt603 => ((impl_BesideLadders.f k bt599.1 bt599.2 bt603.1 bt603.2).bind fun bt607 => ((laws_eqLadder.f k bt607.1 bt607.2.1 t558 t559).bind fun t613 => (if t613 = true then (if (bt607.2.2 != t562) = true then (none) else ((laws_heldLadder.f k t574 t597 1).bind fun t614 => (if t614 < 0 then (none) else (if t614 = t596 then (some true) else (none))))) else (none)))))) else (none))) = some r := H
         have A40 := Aside0.mk A400
         clear A400
         by_cases c41 : t598 < 0
         ·rw [if_pos c41] at H
          exact absurd H (by simp)
         ·rw [if_neg c41] at H
          have c41b0 : decide (t598 < 0) = false := decide_eq_false c41
          clear c41
          by_cases c42 : t598 = t596
          ·rw [if_pos c42] at H
           have c42b0 : (t598 == t596) = true := beq_iff_eq.mpr c42
           have c42b1 : (t598 != t596) = false := bne_eq_false_iff_eq.mpr c42
           clear c42
           replace H := Option.bind_eq_some_iff.mp H
           obtain ⟨⟨t599, t600⟩, A430, H⟩ := H
           replace H : ((laws_toLadder.f k a1_0 l1_1).bind fun bt603 => ((impl_BesideLadders.f k t599 t600 bt603.1 bt603.2).bind fun bt607 => ((laws_eqLadder.f k bt607.1 bt607.2.1 t558 t559).bind fun t613 => (if t613 = true then (if (bt607.2.2 != t562) = true then (none) else ((laws_heldLadder.f k t574 t597 1).bind fun t614 => (if t614 < 0 then (none) else (if t614 = t596 then (some true) else (none))))) else (none))))) = some r := H
           have A43 := Aside0.mk A430
           clear A430
           replace H := Option.bind_eq_some_iff.mp H
           obtain ⟨⟨t603, t604⟩, A440, H⟩ := H
           replace H : ((impl_BesideLadders.f k t599 t600 t603 t604).bind fun bt607 => ((laws_eqLadder.f k bt607.1 bt607.2.1 t558 t559).bind fun t613 => (if t613 = true then (if (bt607.2.2 != t562) = true then (none) else ((laws_heldLadder.f k t574 t597 1).bind fun t614 => (if t614 < 0 then (none) else (if t614 = t596 then (some true) else (none))))) else (none)))) = some r := H
           have A44 := Aside0.mk A440
           clear A440
           replace H := Option.bind_eq_some_iff.mp H
           obtain ⟨⟨t607, t608, t611⟩, A450, H⟩ := H
           replace H : ((laws_eqLadder.f k t607 t608 t558 t559).bind fun t613 => (if t613 = true then (if (t611 != t562) = true then (none) else ((laws_heldLadder.f k t574 t597 1).bind fun t614 => (if t614 < 0 then (none) else (if t614 = t596 then (some true) else (none))))) else (none))) = some r := H
           have A45 := Aside0.mk A450
           clear A450
           replace H := Option.bind_eq_some_iff.mp H
           obtain ⟨t613, A460, H⟩ := H
           replace H : (if t613 = true then (if (t611 != t562) = true then (none) else ((laws_heldLadder.f k t574 t597 1).bind fun t614 => (if t614 < 0 then (none) else (if t614 = t596 then (some true) else (none))))) else (none)) = some r := H
           have A46 := Aside0.mk A460
           clear A460
           by_cases c47 : t613 = true
           ·subst c47
            have H1 : (if (t611 != t562) = true then (none) else ((laws_heldLadder.f k t574 t597 1).bind fun t614 => (if t614 < 0 then (none) else (if t614 = t596 then (some true) else (none))))) = some r := by rw [if_pos rfl] at H; exact H
            clear H
            have H := H1
            clear H1
            by_cases c48 : (t611 != t562) = true
            ·rw [if_pos c48] at H
             exact absurd H (by simp)
            ·rw [if_neg c48] at H
             have c48b0 : (t611 != t562) = false := by simpa using c48
             (try (have c48b1 : decide (t611 = t562) = true := by simpa using c48))
             (try (have c48b2 : (t611 == t562) = true := by simpa using c48))
             clear c48
             replace H := Option.bind_eq_some_iff.mp H
             obtain ⟨t614, A490, H⟩ := H
             replace H : (if t614 < 0 then (none) else (if t614 = t596 then (some true) else (none))) = some r := H
             have A49 := Aside0.mk A490
             clear A490
             by_cases c50 : t614 < 0
             ·rw [if_pos c50] at H
              exact absurd H (by simp)
             ·rw [if_neg c50] at H
              have c50b0 : decide (t614 < 0) = false := decide_eq_false c50
              clear c50
              by_cases c51 : t614 = t596
              ·rw [if_pos c51] at H
               have c51b0 : (t614 == t596) = true := beq_iff_eq.mpr c51
               have c51b1 : (t614 != t596) = false := bne_eq_false_iff_eq.mpr c51
               clear c51
               obtain rfl := Option.some.inj H
               go_enter Try.func9, Try.ntmps9
               try go_wp2_with (first | ((with_reducible refine gate_dst (N := 2) rfl ?_); refine box_event ?hg (N := 2) ?hd (cs := #[.int .i64 a0_0, .slice A0_1 l0_1.length c0_1]) (t := 24) ?hr ?_; (case hd => rfl); (case hg => rfl); (case hr => first | (go_simp; done) | (go_simp; rfl)); intro gb546 hg w52 hbox hb; have BK546 := Aside0.mk (hbox); have GW546 := Aside0.mk ((by rw [hg]; exact (below_size (Bl_ HB)) : w.heap.size ≤ gb546)); have GE546 := Aside0.mk ((by rw [hg]; exact (below_size (Bl_ HB)) : w.heap.size ≤ gb546)); replace HB := Aside0.mk (below_step (Bl_ HB) hb); clear hb hbox hg) | ((with_reducible refine gate_dst (N := 3) rfl ?_); refine box_event ?hg (N := 3) ?hd (cs := #[.int .i64 a1_0, .slice A1_1 l1_1.length c1_1]) (t := 24) ?hr ?_; (case hd => rfl); (case hg => rfl); (case hr => first | (go_simp; done) | (go_simp; rfl)); intro gb547 hg w53 hbox hb; have BK547 := Aside0.mk (hbox); have GW547 := Aside0.mk ((by rw [hg]; exact (below_size (Bl_ HB)) : w.heap.size ≤ gb547)); have GE547 := Aside0.mk ((by rw [hg]; exact (below_size (Bl_ HB)) : w.heap.size ≤ gb547)); replace HB := Aside0.mk (below_step (Bl_ HB) hb); have NB546_547 := Aside0.mk ((by rw [hg]; exact Nat.ne_of_lt (blk_lt (g := gb546) (o := .cells #[.int .i64 a0_0, .slice A0_1 l0_1.length c0_1] 24 (0, 0)) (bl_ BK546)) : gb546 ≠ gb547)); have NB547_546 := Aside0.mk ((by rw [hg]; exact Nat.ne_of_gt (blk_lt (g := gb546) (o := .cells #[.int .i64 a0_0, .slice A0_1 l0_1.length c0_1] 24 (0, 0)) (bl_ BK546)) : gb547 ≠ gb546)); replace BK546 := blkB_ BK546 hb; clear hb hbox hg; have hnb54 := NB546_547.out; have hnc54 := NB547_546.out; have hcz55_0 : w53.cell? ⟨gb546, 0, none⟩ = some (.int .i64 a0_0) := (blk_cell BK546.out 0).trans rfl; have hcz55_1 : w53.cell? ⟨gb546, 1, none⟩ = some (.slice A0_1 l0_1.length c0_1) := (blk_cell BK546.out 1).trans rfl; have hfz55_0 := blk_frozen BK546.out 0; have hfz55_1 := blk_frozen BK546.out 1) | ((with_reducible refine gate_callee (f := 15) rfl ?_); refine gl_ (some 19) rfl rfl Try.func15 (by kernel_rfl) rfl #[.agg #[.int .i64 a0_0, .slice A0_1 l0_1.length c0_1], .int .i64 1048576] rfl ?_; (with_reducible refine (laws_szLadder.calls a0_0 _ _ l0_1 1048576 t548 _ ?side1 ?side2 A3.out).mono ?_); (case side1 => exact Cl_ (Kd.C_below HR0_1.out HB.out)); (case side2 => exact HC0_1.out); rintro e w56 ⟨rfl, hb⟩; refine ⟨_, rfl, ?_⟩; replace BK546 := blkB_ BK546 hb; replace BK547 := blkB_ BK547 hb; replace HB := Aside0.mk (below_step (Bl_ HB) hb); (try clear hb); (try clear hb2); (try clear hk); (try clear hi); have hcz57_0 : w56.cell? ⟨gb547, 0, none⟩ = some (.int .i64 a1_0) := (blk_cell BK547.out 0).trans rfl; have hcz57_1 : w56.cell? ⟨gb547, 1, none⟩ = some (.slice A1_1 l1_1.length c1_1) := (blk_cell BK547.out 1).trans rfl; have hfz57_0 := blk_frozen BK547.out 0; have hfz57_1 := blk_frozen BK547.out 1) | ((with_reducible refine gate_callee (f := 15) rfl ?_); refine gl_ (some 24) rfl rfl Try.func15 (by kernel_rfl) rfl #[.agg #[.int .i64 a1_0, .slice A1_1 l1_1.length c1_1], .int .i64 t548] rfl ?_; (with_reducible refine (laws_szLadder.calls a1_0 _ _ l1_1 t548 t549 _ ?side1 ?side2 A10.out).mono ?_); (case side1 => exact Cl_ (Kd.C_below HR1_1.out HB.out)); (case side2 => exact HC1_1.out); rintro e w58 ⟨rfl, hb⟩; refine ⟨_, rfl, ?_⟩; replace BK546 := blkB_ BK546 hb; replace BK547 := blkB_ BK547 hb; replace HB := Aside0.mk (below_step (Bl_ HB) hb); (try clear hb); (try clear hb2); (try clear hk); (try clear hi)))
               replace BK546 := Aside0.mk (blk_drew BK546.out)
               replace BK547 := Aside0.mk (blk_drew BK547.out)
               replace HB := Aside0.mk (below_drew1 HB.out)
               refine start_ (n := 11) (S := fun w' => w'.cell? ⟨gb546, 0, none⟩ = some (.int .i64 a0_0) ∧ w'.cell? ⟨gb546, 1, none⟩ = some (.slice A0_1 l0_1.length c0_1) ∧ w'.cell? ⟨gb547, 0, none⟩ = some (.int .i64 a1_0) ∧ w'.cell? ⟨gb547, 1, none⟩ = some (.slice A1_1 l1_1.length c1_1)) (ds := []) #[false, false, false, false, false, false, false, false, false, false, false] (by kernel_rfl) rfl rfl ⟨(blk_cell BK546.out 0).trans rfl, (blk_cell BK546.out 1).trans rfl, (blk_cell BK547.out 0).trans rfl, (blk_cell BK547.out 1).trans rfl⟩ (fun hHeld => ?_); refine with_tabW laws_FnExactBesideLadders.tab8 laws_FnExactBesideLadders.bits8 (fun HT_ HW_ => ?_)
               generalize w58.drew = w59 at BK546 BK547 HB hHeld ⊢
               refine take_ (i := 0) (N := some 28) (v := ?_) (a' := ?_) #[true, false, false, false, false, false, false, false, false, false, false] rfl rfl (take_ofW HT_.out HW_.out (by kernel_rfl)) (fun _ _ _ h => h) (Or.inl ⟨by rfl, ?_⟩) hHeld ?_ ?_
               rotate_left
               ·rintro w' ⟨s0, s1, s2, s3⟩
                go_simp
                with_reducible rfl
               rotate_left
               ·simp only [Act.put, List.setIfInBounds_toArray, List.set_cons_zero, List.set_cons_succ, i64_w, i32_w]
                rfl
               refine take_ (i := 2) (N := some 30) (v := ?_) (a' := ?_) #[true, false, true, false, false, false, false, false, false, false, false] rfl rfl (take_ofW HT_.out HW_.out (by kernel_rfl)) (fun _ _ _ h => h) (Or.inl ⟨by rfl, ?_⟩) hHeld ?_ ?_
               rotate_left
               ·rintro w' ⟨s0, s1, s2, s3⟩
                go_simp
                with_reducible rfl
               rotate_left
               ·simp only [Act.put, List.setIfInBounds_toArray, List.set_cons_zero, List.set_cons_succ, i64_w, i32_w]
                rfl
               refine join_ (σ := Value × Value × Value × Nat) 2 #[true, true, true, true, true, true, true, true, true, false, false] (fun s_ => [(29, .agg #[.int .i64 t550, s_.1]), (31, .agg #[.int .i64 t554, s_.2.1]), (32, .tuple #[.agg #[.int .i64 t558, s_.2.2.1], .bool t562]), (6, .pointer (some ⟨s_.2.2.2, 0, none⟩)), (27, .tuple #[.agg #[.int .i64 t558, s_.2.2.1], .bool t562]), (33, .agg #[.int .i64 t558, s_.2.2.1]), (34, .bool t562)]) (fun s_ w' => (w'.cell? ⟨gb546, 0, none⟩ = some (.int .i64 a0_0) ∧ w'.cell? ⟨gb546, 1, none⟩ = some (.slice A0_1 l0_1.length c0_1) ∧ w'.cell? ⟨gb547, 0, none⟩ = some (.int .i64 a1_0) ∧ w'.cell? ⟨gb547, 1, none⟩ = some (.slice A1_1 l1_1.length c1_1)) ∧ (Kd.R (Kd.int .i64) 3 w' w.heap.size (fun k_ => some k_ ≠ (s_.2.1 : Value).ownBlock ∧ some k_ ≠ (s_.2.2.1 : Value).ownBlock) s_.1 t551) ∧ (Kd.R (Kd.int .i64) 3 w' w.heap.size (fun k_ => some k_ ≠ (s_.1 : Value).ownBlock ∧ some k_ ≠ (s_.2.2.1 : Value).ownBlock) s_.2.1 t555) ∧ (Kd.R (Kd.int .i64) 3 w' w.heap.size (fun k_ => some k_ ≠ (s_.1 : Value).ownBlock ∧ some k_ ≠ (s_.2.1 : Value).ownBlock) s_.2.2.1 t559) ∧ (w'.heap[gb546]? = some (.cells #[.int .i64 a0_0, .slice A0_1 l0_1.length c0_1] 24 (0, 0))) ∧ (w'.heap[gb547]? = some (.cells #[.int .i64 a1_0, .slice A1_1 l1_1.length c1_1] 24 (0, 0))) ∧ (w'.heap[s_.2.2.2]? = some (.cells #[.int .i64 0, .slice none 0 0] 28 (0, 0))) ∧ (w.heap.size ≤ s_.2.2.2) ∧ (w.heap.size ≤ s_.2.2.2) ∧ (gb546 ≠ s_.2.2.2) ∧ (s_.2.2.2 ≠ gb546) ∧ (gb547 ≠ s_.2.2.2) ∧ (s_.2.2.2 ≠ gb547) ∧ (Below w.heap.size w w')) ?_ ?_
               rotate_left
               ·intro hCont
                refine two_ (i := 1) (j := 8) (Ni := some 29) (Nj := some 6) #[true, true, true, false, false, false, false, false, false, false, false] #[true, false, true, false, false, false, false, false, true, false, false] rfl rfl rfl rfl (two_of HT_.out (by kernel_rfl)) (by decide) (by decide) (fun K hK => ?_) (fun K hK => ?_)
                ·skip
                 refine gs_ Try.func17 (by kernel_rfl) rfl #[.agg #[.int .i64 a0_0, .slice A0_1 l0_1.length c0_1]] (by rfl) rfl rfl ?_
                 with_reducible refine (laws_toLadder.calls k a0_0 _ _ l0_1 t550 t551 _ ?side1 ?side2 A19.out).mono ?_
                 (case side1 => exact Cl_ (Kd.C_below HR0_1.out HB.out))
                 (case side2 => exact HC0_1.out)
                 rintro e w60 ⟨v552, rfl, ho0, hb⟩
                 refine ⟨_, rfl, ?_⟩
                 have HO553 := Aside0.mk (Kd.R_lower ho0 (below_size (Bl_ HB)))
                 replace BK546 := blkB_ BK546 hb
                 replace BK547 := blkB_ BK547 hb
                 replace HB := Aside0.mk (below_step (Bl_ HB) hb)
                 (try clear hb); (try clear hb2); (try clear hk); (try clear hi); (try clear ho0)
                 refine hK.out _ _ ⟨(blk_cell BK546.out 0).trans rfl, (blk_cell BK546.out 1).trans rfl, (blk_cell BK547.out 0).trans rfl, (blk_cell BK547.out 1).trans rfl⟩ (fun hHeld => ?_)
                 clear hK K
                 refine norm_ (a' := ?_) ?_ ?_
                 rotate_left
                 ·show Act.put _ (some 29) _ = _
                  simp only [Act.put, List.setIfInBounds_toArray, List.set_cons_zero, List.set_cons_succ, i64_w, i32_w]
                  rfl
                 refine two_ (i := 3) (j := 8) (Ni := some 31) (Nj := some 6) #[true, true, true, true, false, false, false, false, false, false, false] #[true, true, true, false, false, false, false, false, true, false, false] rfl rfl rfl rfl (two_of HT_.out (by kernel_rfl)) (by decide) (by decide) (fun K hK => ?_) (fun K hK => ?_)
                 ·skip
                  refine gs_ Try.func17 (by kernel_rfl) rfl #[.agg #[.int .i64 a1_0, .slice A1_1 l1_1.length c1_1]] (by rfl) rfl rfl ?_
                  with_reducible refine (laws_toLadder.calls k a1_0 _ _ l1_1 t554 t555 _ ?side1 ?side2 A20.out).mono ?_
                  (case side1 => exact Cl_ (Kd.C_below HR1_1.out HB.out))
                  (case side2 => exact HC1_1.out)
                  rintro e w61 ⟨v556, rfl, ho0, hb⟩
                  refine ⟨_, rfl, ?_⟩
                  have HO557 := Aside0.mk (Kd.R_lower (Kd.R_new' ho0 (Kd.R_lt (Rl_ HO553.out))) (below_size (Bl_ HB)))
                  replace HO553 := Aside0.mk (Kd.R_elder' (Rl_ HO553.out) (Kd.R_base ho0) hb)
                  replace BK546 := blkB_ BK546 hb
                  replace BK547 := blkB_ BK547 hb
                  replace HB := Aside0.mk (below_step (Bl_ HB) hb)
                  (try clear hb); (try clear hb2); (try clear hk); (try clear hi); (try clear ho0)
                  obtain ⟨Ao62, co62, eo62⟩ := Kd.R_slice HO553.out
                  (first | subst eo62 | (injection eo62 with f1_ f2_ f3_; have f4_ := f1_.symm; have f5_ := f3_.symm; clear f1_ f2_ f3_; subst f4_; subst f5_))
                  obtain ⟨Ao63, co63, eo63⟩ := Kd.R_slice HO557.out
                  (first | subst eo63 | (injection eo63 with f1_ f2_ f3_; have f4_ := f1_.symm; have f5_ := f3_.symm; clear f1_ f2_ f3_; subst f4_; subst f5_))
                  refine hK.out _ _ ⟨(blk_cell BK546.out 0).trans rfl, (blk_cell BK546.out 1).trans rfl, (blk_cell BK547.out 0).trans rfl, (blk_cell BK547.out 1).trans rfl⟩ (fun hHeld => ?_)
                  clear hK K
                  refine norm_ (a' := ?_) ?_ ?_
                  rotate_left
                  ·show Act.put _ (some 31) _ = _
                   simp only [Act.put, List.setIfInBounds_toArray, List.set_cons_zero, List.set_cons_succ, i64_w, i32_w]
                   rfl
                  refine two_ (i := 4) (j := 8) (Ni := some 32) (Nj := some 6) #[true, true, true, true, true, false, false, false, false, false, false] #[true, true, true, true, false, false, false, false, true, false, false] rfl rfl rfl rfl (two_of HT_.out (by kernel_rfl)) (by decide) (by decide) (fun K hK => ?_) (fun K hK => ?_)
                  ·skip
                   refine gs_ Try.func36 (by kernel_rfl) rfl #[.agg #[.int .i64 t550, .slice Ao62 t551.length co62], .agg #[.int .i64 t554, .slice Ao63 t555.length co63]] (by rfl) rfl rfl ?_
                   with_reducible refine (spec_BesideLadders.calls k t550 _ _ t551 t554 _ _ t555 t558 t559 t562 _ ?side1 ?side2 ?side3 ?side4 A21.out).mono ?_
                   (case side1 => exact Cl_ (Kd.R_reads' HO553.out).2.2)
                   (case side2 => exact (Kd.R_reads' HO553.out).2.1)
                   (case side3 => exact Cl_ (Kd.R_reads' HO557.out).2.2)
                   (case side4 => exact (Kd.R_reads' HO557.out).2.1)
                   rintro e w64 ⟨v560, rfl, ho0, hb⟩
                   refine ⟨_, rfl, ?_⟩
                   have HO561 := Aside0.mk (Kd.R_lower (Kd.R_new' (Kd.R_new' ho0 (Kd.R_lt (Rl_ HO553.out))) (Kd.R_lt (Rl_ HO557.out))) (below_size (Bl_ HB)))
                   replace HO553 := Aside0.mk (Kd.R_elder' (Rl_ HO553.out) (Kd.R_base ho0) hb)
                   replace HO557 := Aside0.mk (Kd.R_elder' (Rl_ HO557.out) (Kd.R_base ho0) hb)
                   replace BK546 := blkB_ BK546 hb
                   replace BK547 := blkB_ BK547 hb
                   replace HB := Aside0.mk (below_step (Bl_ HB) hb)
                   (try clear hb); (try clear hb2); (try clear hk); (try clear hi); (try clear ho0)
                   refine hK.out _ _ ⟨(blk_cell BK546.out 0).trans rfl, (blk_cell BK546.out 1).trans rfl, (blk_cell BK547.out 0).trans rfl, (blk_cell BK547.out 1).trans rfl⟩ (fun hHeld => ?_)
                   clear hK K
                   refine norm_ (a' := ?_) ?_ ?_
                   rotate_left
                   ·show Act.put _ (some 32) _ = _
                    simp only [Act.put, List.setIfInBounds_toArray, List.set_cons_zero, List.set_cons_succ, i64_w, i32_w]
                    rfl
                   refine pure_ (i := 5) (N := some 27) (v := ?_) (a' := ?_) #[true, true, true, true, true, true, false, false, false, false, false] rfl rfl (any_of HT_.out (by kernel_rfl)) (fun _ _ _ h => h) (Or.inl ⟨by rfl, ?_⟩) ?_ ?_
                   rotate_left
                   ·intro w'
                    go_simp
                    with_reducible rfl
                   rotate_left
                   ·simp only [Act.put, List.setIfInBounds_toArray, List.set_cons_zero, List.set_cons_succ, i64_w, i32_w]
                    rfl
                   refine pure_ (i := 6) (N := some 33) (v := ?_) (a' := ?_) #[true, true, true, true, true, true, true, false, false, false, false] rfl rfl (any_of HT_.out (by kernel_rfl)) (fun _ _ _ h => h) (Or.inl ⟨by rfl, ?_⟩) ?_ ?_
                   rotate_left
                   ·intro w'
                    go_simp
                    with_reducible rfl
                   rotate_left
                   ·simp only [Act.put, List.setIfInBounds_toArray, List.set_cons_zero, List.set_cons_succ, i64_w, i32_w]
                    rfl
                   refine pure_ (i := 7) (N := some 34) (v := ?_) (a' := ?_) #[true, true, true, true, true, true, true, true, false, false, false] rfl rfl (any_of HT_.out (by kernel_rfl)) (fun _ _ _ h => h) (Or.inl ⟨by rfl, ?_⟩) ?_ ?_
                   rotate_left
                   ·intro w'
                    go_simp
                    with_reducible rfl
                   rotate_left
                   ·simp only [Act.put, List.setIfInBounds_toArray, List.set_cons_zero, List.set_cons_succ, i64_w, i32_w]
                    rfl
                   refine one_ (i := 8) (N := some 6) #[true, true, true, true, true, true, true, true, true, false, false] rfl rfl (one_of HT_.out (by kernel_rfl)) (by decide) (fun K hK => ?_)
                   refine box_step ?hg (N := 6) ?hd (cs := #[.int .i64 0, .slice none 0 0]) (t := 28) ?hr ?_; (case hd => rfl); (case hg => rfl); (case hr => first | (go_simp; done) | (go_simp; rfl))
                   intro gb563 hg w65 hbox hb
                   replace HO553 := Aside0.mk (Kd.R_below (Rl_ HO553.out) hb)
                   replace HO557 := Aside0.mk (Kd.R_below (Rl_ HO557.out) hb)
                   replace HO561 := Aside0.mk (Kd.R_below (Rl_ HO561.out) hb)
                   have BK563 := Aside0.mk (hbox)
                   have GW563 := Aside0.mk ((by rw [hg]; exact (below_size (Bl_ HB)) : w.heap.size ≤ gb563))
                   have GE563 := Aside0.mk ((by rw [hg]; exact (below_size (Bl_ HB)) : w.heap.size ≤ gb563))
                   replace HB := Aside0.mk (below_step (Bl_ HB) hb)
                   have NB546_563 := Aside0.mk ((by rw [hg]; exact Nat.ne_of_lt (blk_lt (g := gb546) (o := .cells #[.int .i64 a0_0, .slice A0_1 l0_1.length c0_1] 24 (0, 0)) (bl_ BK546)) : gb546 ≠ gb563))
                   have NB563_546 := Aside0.mk ((by rw [hg]; exact Nat.ne_of_gt (blk_lt (g := gb546) (o := .cells #[.int .i64 a0_0, .slice A0_1 l0_1.length c0_1] 24 (0, 0)) (bl_ BK546)) : gb563 ≠ gb546))
                   replace BK546 := blkB_ BK546 hb
                   have NB547_563 := Aside0.mk ((by rw [hg]; exact Nat.ne_of_lt (blk_lt (g := gb547) (o := .cells #[.int .i64 a1_0, .slice A1_1 l1_1.length c1_1] 24 (0, 0)) (bl_ BK547)) : gb547 ≠ gb563))
                   have NB563_547 := Aside0.mk ((by rw [hg]; exact Nat.ne_of_gt (blk_lt (g := gb547) (o := .cells #[.int .i64 a1_0, .slice A1_1 l1_1.length c1_1] 24 (0, 0)) (bl_ BK547)) : gb563 ≠ gb547))
                   replace BK547 := blkB_ BK547 hb
                   clear hb hbox hg
                   refine hK.out _ _ ⟨(blk_cell BK546.out 0).trans rfl, (blk_cell BK546.out 1).trans rfl, (blk_cell BK547.out 0).trans rfl, (blk_cell BK547.out 1).trans rfl⟩ (fun hHeld => ?_)
                   clear hK K
                   refine norm_ (a' := ?_) ?_ ?_
                   rotate_left
                   ·show Act.put _ (some 6) _ = _
                    simp only [Act.put, List.setIfInBounds_toArray, List.set_cons_zero, List.set_cons_succ, i64_w, i32_w]
                    rfl
                   exact norm_ (by simp only [putAll, Act.put, List.setIfInBounds_toArray, List.set_cons_zero, List.set_cons_succ]) (hCont (.slice Ao62 t551.length co62, .slice Ao63 t555.length co63, v560, gb563) _ ⟨hHeld, (Rl_ (Kd.R_mono HO553.out (fun _ hk => ⟨hk.1.2, hk.2⟩))), (Rl_ (Kd.R_mono HO557.out (fun _ hk => ⟨hk.1.2, hk.2⟩))), (Rl_ (Kd.R_mono HO561.out (fun _ hk => ⟨hk.1.2, hk.2⟩))), (bl_ BK546), (bl_ BK547), (bl_ BK563), GW563.out, GE563.out, NB546_563.out, NB563_546.out, NB547_563.out, NB563_547.out, (Bl_ HB)⟩)
                  ·skip
                   refine box_step ?hg (N := 6) ?hd (cs := #[.int .i64 0, .slice none 0 0]) (t := 28) ?hr ?_; (case hd => rfl); (case hg => rfl); (case hr => first | (go_simp; done) | (go_simp; rfl))
                   intro gb563 hg w62 hbox hb
                   replace HO553 := Aside0.mk (Kd.R_below (Rl_ HO553.out) hb)
                   replace HO557 := Aside0.mk (Kd.R_below (Rl_ HO557.out) hb)
                   have BK563 := Aside0.mk (hbox)
                   have GW563 := Aside0.mk ((by rw [hg]; exact (below_size (Bl_ HB)) : w.heap.size ≤ gb563))
                   have GE563 := Aside0.mk ((by rw [hg]; exact (below_size (Bl_ HB)) : w.heap.size ≤ gb563))
                   replace HB := Aside0.mk (below_step (Bl_ HB) hb)
                   have NB546_563 := Aside0.mk ((by rw [hg]; exact Nat.ne_of_lt (blk_lt (g := gb546) (o := .cells #[.int .i64 a0_0, .slice A0_1 l0_1.length c0_1] 24 (0, 0)) (bl_ BK546)) : gb546 ≠ gb563))
                   have NB563_546 := Aside0.mk ((by rw [hg]; exact Nat.ne_of_gt (blk_lt (g := gb546) (o := .cells #[.int .i64 a0_0, .slice A0_1 l0_1.length c0_1] 24 (0, 0)) (bl_ BK546)) : gb563 ≠ gb546))
                   replace BK546 := blkB_ BK546 hb
                   have NB547_563 := Aside0.mk ((by rw [hg]; exact Nat.ne_of_lt (blk_lt (g := gb547) (o := .cells #[.int .i64 a1_0, .slice A1_1 l1_1.length c1_1] 24 (0, 0)) (bl_ BK547)) : gb547 ≠ gb563))
                   have NB563_547 := Aside0.mk ((by rw [hg]; exact Nat.ne_of_gt (blk_lt (g := gb547) (o := .cells #[.int .i64 a1_0, .slice A1_1 l1_1.length c1_1] 24 (0, 0)) (bl_ BK547)) : gb563 ≠ gb547))
                   replace BK547 := blkB_ BK547 hb
                   clear hb hbox hg
                   obtain ⟨Ao63, co63, eo63⟩ := Kd.R_slice HO553.out
                   (first | subst eo63 | (injection eo63 with f1_ f2_ f3_; have f4_ := f1_.symm; have f5_ := f3_.symm; clear f1_ f2_ f3_; subst f4_; subst f5_))
                   obtain ⟨Ao64, co64, eo64⟩ := Kd.R_slice HO557.out
                   (first | subst eo64 | (injection eo64 with f1_ f2_ f3_; have f4_ := f1_.symm; have f5_ := f3_.symm; clear f1_ f2_ f3_; subst f4_; subst f5_))
                   refine hK.out _ _ ⟨(blk_cell BK546.out 0).trans rfl, (blk_cell BK546.out 1).trans rfl, (blk_cell BK547.out 0).trans rfl, (blk_cell BK547.out 1).trans rfl⟩ (fun hHeld => ?_)
                   clear hK K
                   refine norm_ (a' := ?_) ?_ ?_
                   rotate_left
                   ·show Act.put _ (some 6) _ = _
                    simp only [Act.put, List.setIfInBounds_toArray, List.set_cons_zero, List.set_cons_succ, i64_w, i32_w]
                    rfl
                   refine one_ (i := 4) (N := some 32) #[true, true, true, true, true, false, false, false, true, false, false] rfl rfl (one_of HT_.out (by kernel_rfl)) (by decide) (fun K hK => ?_)
                   refine gs_ Try.func36 (by kernel_rfl) rfl #[.agg #[.int .i64 t550, .slice Ao63 t551.length co63], .agg #[.int .i64 t554, .slice Ao64 t555.length co64]] (by rfl) rfl rfl ?_
                   with_reducible refine (spec_BesideLadders.calls k t550 _ _ t551 t554 _ _ t555 t558 t559 t562 _ ?side1 ?side2 ?side3 ?side4 A21.out).mono ?_
                   (case side1 => exact Cl_ (Kd.R_reads' HO553.out).2.2)
                   (case side2 => exact (Kd.R_reads' HO553.out).2.1)
                   (case side3 => exact Cl_ (Kd.R_reads' HO557.out).2.2)
                   (case side4 => exact (Kd.R_reads' HO557.out).2.1)
                   rintro e w65 ⟨v560, rfl, ho0, hb⟩
                   refine ⟨_, rfl, ?_⟩
                   have HO561 := Aside0.mk (Kd.R_lower (Kd.R_new' (Kd.R_new' ho0 (Kd.R_lt (Rl_ HO553.out))) (Kd.R_lt (Rl_ HO557.out))) (below_size (Bl_ HB)))
                   replace HO553 := Aside0.mk (Kd.R_elder' (Rl_ HO553.out) (Kd.R_base ho0) hb)
                   replace HO557 := Aside0.mk (Kd.R_elder' (Rl_ HO557.out) (Kd.R_base ho0) hb)
                   replace BK546 := blkB_ BK546 hb
                   replace BK547 := blkB_ BK547 hb
                   replace BK563 := blkB_ BK563 hb
                   replace HB := Aside0.mk (below_step (Bl_ HB) hb)
                   (try clear hb); (try clear hb2); (try clear hk); (try clear hi); (try clear ho0)
                   refine hK.out _ _ ⟨(blk_cell BK546.out 0).trans rfl, (blk_cell BK546.out 1).trans rfl, (blk_cell BK547.out 0).trans rfl, (blk_cell BK547.out 1).trans rfl⟩ (fun hHeld => ?_)
                   clear hK K
                   refine norm_ (a' := ?_) ?_ ?_
                   rotate_left
                   ·show Act.put _ (some 32) _ = _
                    simp only [Act.put, List.setIfInBounds_toArray, List.set_cons_zero, List.set_cons_succ, i64_w, i32_w]
                    rfl
                   refine pure_ (i := 5) (N := some 27) (v := ?_) (a' := ?_) #[true, true, true, true, true, true, false, false, true, false, false] rfl rfl (any_of HT_.out (by kernel_rfl)) (fun _ _ _ h => h) (Or.inl ⟨by rfl, ?_⟩) ?_ ?_
                   rotate_left
                   ·intro w'
                    go_simp
                    with_reducible rfl
                   rotate_left
                   ·simp only [Act.put, List.setIfInBounds_toArray, List.set_cons_zero, List.set_cons_succ, i64_w, i32_w]
                    rfl
                   refine pure_ (i := 6) (N := some 33) (v := ?_) (a' := ?_) #[true, true, true, true, true, true, true, false, true, false, false] rfl rfl (any_of HT_.out (by kernel_rfl)) (fun _ _ _ h => h) (Or.inl ⟨by rfl, ?_⟩) ?_ ?_
                   rotate_left
                   ·intro w'
                    go_simp
                    with_reducible rfl
                   rotate_left
                   ·simp only [Act.put, List.setIfInBounds_toArray, List.set_cons_zero, List.set_cons_succ, i64_w, i32_w]
                    rfl
                   refine pure_ (i := 7) (N := some 34) (v := ?_) (a' := ?_) #[true, true, true, true, true, true, true, true, true, false, false] rfl rfl (any_of HT_.out (by kernel_rfl)) (fun _ _ _ h => h) (Or.inl ⟨by rfl, ?_⟩) ?_ ?_
                   rotate_left
                   ·intro w'
                    go_simp
                    with_reducible rfl
                   rotate_left
                   ·simp only [Act.put, List.setIfInBounds_toArray, List.set_cons_zero, List.set_cons_succ, i64_w, i32_w]
                    rfl
                   exact norm_ (by simp only [putAll, Act.put, List.setIfInBounds_toArray, List.set_cons_zero, List.set_cons_succ]) (hCont (.slice Ao63 t551.length co63, .slice Ao64 t555.length co64, v560, gb563) _ ⟨hHeld, (Rl_ (Kd.R_mono HO553.out (fun _ hk => ⟨hk.1.2, hk.2⟩))), (Rl_ (Kd.R_mono HO557.out (fun _ hk => ⟨hk.1.2, hk.2⟩))), (Rl_ (Kd.R_mono HO561.out (fun _ hk => ⟨hk.1.2, hk.2⟩))), (bl_ BK546), (bl_ BK547), (bl_ BK563), GW563.out, GE563.out, NB546_563.out, NB563_546.out, NB547_563.out, NB563_547.out, (Bl_ HB)⟩)
                 ·skip
                  refine box_step ?hg (N := 6) ?hd (cs := #[.int .i64 0, .slice none 0 0]) (t := 28) ?hr ?_; (case hd => rfl); (case hg => rfl); (case hr => first | (go_simp; done) | (go_simp; rfl))
                  intro gb563 hg w61 hbox hb
                  replace HO553 := Aside0.mk (Kd.R_below (Rl_ HO553.out) hb)
                  have BK563 := Aside0.mk (hbox)
                  have GW563 := Aside0.mk ((by rw [hg]; exact (below_size (Bl_ HB)) : w.heap.size ≤ gb563))
                  have GE563 := Aside0.mk ((by rw [hg]; exact (below_size (Bl_ HB)) : w.heap.size ≤ gb563))
                  replace HB := Aside0.mk (below_step (Bl_ HB) hb)
                  have NB546_563 := Aside0.mk ((by rw [hg]; exact Nat.ne_of_lt (blk_lt (g := gb546) (o := .cells #[.int .i64 a0_0, .slice A0_1 l0_1.length c0_1] 24 (0, 0)) (bl_ BK546)) : gb546 ≠ gb563))
                  have NB563_546 := Aside0.mk ((by rw [hg]; exact Nat.ne_of_gt (blk_lt (g := gb546) (o := .cells #[.int .i64 a0_0, .slice A0_1 l0_1.length c0_1] 24 (0, 0)) (bl_ BK546)) : gb563 ≠ gb546))
                  replace BK546 := blkB_ BK546 hb
                  have NB547_563 := Aside0.mk ((by rw [hg]; exact Nat.ne_of_lt (blk_lt (g := gb547) (o := .cells #[.int .i64 a1_0, .slice A1_1 l1_1.length c1_1] 24 (0, 0)) (bl_ BK547)) : gb547 ≠ gb563))
                  have NB563_547 := Aside0.mk ((by rw [hg]; exact Nat.ne_of_gt (blk_lt (g := gb547) (o := .cells #[.int .i64 a1_0, .slice A1_1 l1_1.length c1_1] 24 (0, 0)) (bl_ BK547)) : gb563 ≠ gb547))
                  replace BK547 := blkB_ BK547 hb
                  clear hb hbox hg
                  refine hK.out _ _ ⟨(blk_cell BK546.out 0).trans rfl, (blk_cell BK546.out 1).trans rfl, (blk_cell BK547.out 0).trans rfl, (blk_cell BK547.out 1).trans rfl⟩ (fun hHeld => ?_)
                  clear hK K
                  refine norm_ (a' := ?_) ?_ ?_
                  rotate_left
                  ·show Act.put _ (some 6) _ = _
                   simp only [Act.put, List.setIfInBounds_toArray, List.set_cons_zero, List.set_cons_succ, i64_w, i32_w]
                   rfl
                  refine one_ (i := 3) (N := some 31) #[true, true, true, true, false, false, false, false, true, false, false] rfl rfl (one_of HT_.out (by kernel_rfl)) (by decide) (fun K hK => ?_)
                  refine gs_ Try.func17 (by kernel_rfl) rfl #[.agg #[.int .i64 a1_0, .slice A1_1 l1_1.length c1_1]] (by rfl) rfl rfl ?_
                  with_reducible refine (laws_toLadder.calls k a1_0 _ _ l1_1 t554 t555 _ ?side1 ?side2 A20.out).mono ?_
                  (case side1 => exact Cl_ (Kd.C_below HR1_1.out HB.out))
                  (case side2 => exact HC1_1.out)
                  rintro e w62 ⟨v556, rfl, ho0, hb⟩
                  refine ⟨_, rfl, ?_⟩
                  have HO557 := Aside0.mk (Kd.R_lower (Kd.R_new' ho0 (Kd.R_lt (Rl_ HO553.out))) (below_size (Bl_ HB)))
                  replace HO553 := Aside0.mk (Kd.R_elder' (Rl_ HO553.out) (Kd.R_base ho0) hb)
                  replace BK546 := blkB_ BK546 hb
                  replace BK547 := blkB_ BK547 hb
                  replace BK563 := blkB_ BK563 hb
                  replace HB := Aside0.mk (below_step (Bl_ HB) hb)
                  (try clear hb); (try clear hb2); (try clear hk); (try clear hi); (try clear ho0)
                  obtain ⟨Ao63, co63, eo63⟩ := Kd.R_slice HO553.out
                  (first | subst eo63 | (injection eo63 with f1_ f2_ f3_; have f4_ := f1_.symm; have f5_ := f3_.symm; clear f1_ f2_ f3_; subst f4_; subst f5_))
                  obtain ⟨Ao64, co64, eo64⟩ := Kd.R_slice HO557.out
                  (first | subst eo64 | (injection eo64 with f1_ f2_ f3_; have f4_ := f1_.symm; have f5_ := f3_.symm; clear f1_ f2_ f3_; subst f4_; subst f5_))
                  refine hK.out _ _ ⟨(blk_cell BK546.out 0).trans rfl, (blk_cell BK546.out 1).trans rfl, (blk_cell BK547.out 0).trans rfl, (blk_cell BK547.out 1).trans rfl⟩ (fun hHeld => ?_)
                  clear hK K
                  refine norm_ (a' := ?_) ?_ ?_
                  rotate_left
                  ·show Act.put _ (some 31) _ = _
                   simp only [Act.put, List.setIfInBounds_toArray, List.set_cons_zero, List.set_cons_succ, i64_w, i32_w]
                   rfl
                  refine one_ (i := 4) (N := some 32) #[true, true, true, true, true, false, false, false, true, false, false] rfl rfl (one_of HT_.out (by kernel_rfl)) (by decide) (fun K hK => ?_)
                  refine gs_ Try.func36 (by kernel_rfl) rfl #[.agg #[.int .i64 t550, .slice Ao63 t551.length co63], .agg #[.int .i64 t554, .slice Ao64 t555.length co64]] (by rfl) rfl rfl ?_
                  with_reducible refine (spec_BesideLadders.calls k t550 _ _ t551 t554 _ _ t555 t558 t559 t562 _ ?side1 ?side2 ?side3 ?side4 A21.out).mono ?_
                  (case side1 => exact Cl_ (Kd.R_reads' HO553.out).2.2)
                  (case side2 => exact (Kd.R_reads' HO553.out).2.1)
                  (case side3 => exact Cl_ (Kd.R_reads' HO557.out).2.2)
                  (case side4 => exact (Kd.R_reads' HO557.out).2.1)
                  rintro e w65 ⟨v560, rfl, ho0, hb⟩
                  refine ⟨_, rfl, ?_⟩
                  have HO561 := Aside0.mk (Kd.R_lower (Kd.R_new' (Kd.R_new' ho0 (Kd.R_lt (Rl_ HO553.out))) (Kd.R_lt (Rl_ HO557.out))) (below_size (Bl_ HB)))
                  replace HO553 := Aside0.mk (Kd.R_elder' (Rl_ HO553.out) (Kd.R_base ho0) hb)
                  replace HO557 := Aside0.mk (Kd.R_elder' (Rl_ HO557.out) (Kd.R_base ho0) hb)
                  replace BK546 := blkB_ BK546 hb
                  replace BK547 := blkB_ BK547 hb
                  replace BK563 := blkB_ BK563 hb
                  replace HB := Aside0.mk (below_step (Bl_ HB) hb)
                  (try clear hb); (try clear hb2); (try clear hk); (try clear hi); (try clear ho0)
                  refine hK.out _ _ ⟨(blk_cell BK546.out 0).trans rfl, (blk_cell BK546.out 1).trans rfl, (blk_cell BK547.out 0).trans rfl, (blk_cell BK547.out 1).trans rfl⟩ (fun hHeld => ?_)
                  clear hK K
                  refine norm_ (a' := ?_) ?_ ?_
                  rotate_left
                  ·show Act.put _ (some 32) _ = _
                   simp only [Act.put, List.setIfInBounds_toArray, List.set_cons_zero, List.set_cons_succ, i64_w, i32_w]
                   rfl
                  refine pure_ (i := 5) (N := some 27) (v := ?_) (a' := ?_) #[true, true, true, true, true, true, false, false, true, false, false] rfl rfl (any_of HT_.out (by kernel_rfl)) (fun _ _ _ h => h) (Or.inl ⟨by rfl, ?_⟩) ?_ ?_
                  rotate_left
                  ·intro w'
                   go_simp
                   with_reducible rfl
                  rotate_left
                  ·simp only [Act.put, List.setIfInBounds_toArray, List.set_cons_zero, List.set_cons_succ, i64_w, i32_w]
                   rfl
                  refine pure_ (i := 6) (N := some 33) (v := ?_) (a' := ?_) #[true, true, true, true, true, true, true, false, true, false, false] rfl rfl (any_of HT_.out (by kernel_rfl)) (fun _ _ _ h => h) (Or.inl ⟨by rfl, ?_⟩) ?_ ?_
                  rotate_left
                  ·intro w'
                   go_simp
                   with_reducible rfl
                  rotate_left
                  ·simp only [Act.put, List.setIfInBounds_toArray, List.set_cons_zero, List.set_cons_succ, i64_w, i32_w]
                   rfl
                  refine pure_ (i := 7) (N := some 34) (v := ?_) (a' := ?_) #[true, true, true, true, true, true, true, true, true, false, false] rfl rfl (any_of HT_.out (by kernel_rfl)) (fun _ _ _ h => h) (Or.inl ⟨by rfl, ?_⟩) ?_ ?_
                  rotate_left
                  ·intro w'
                   go_simp
                   with_reducible rfl
                  rotate_left
                  ·simp only [Act.put, List.setIfInBounds_toArray, List.set_cons_zero, List.set_cons_succ, i64_w, i32_w]
                   rfl
                  exact norm_ (by simp only [putAll, Act.put, List.setIfInBounds_toArray, List.set_cons_zero, List.set_cons_succ]) (hCont (.slice Ao63 t551.length co63, .slice Ao64 t555.length co64, v560, gb563) _ ⟨hHeld, (Rl_ (Kd.R_mono HO553.out (fun _ hk => ⟨hk.1.2, hk.2⟩))), (Rl_ (Kd.R_mono HO557.out (fun _ hk => ⟨hk.1.2, hk.2⟩))), (Rl_ (Kd.R_mono HO561.out (fun _ hk => ⟨hk.1.2, hk.2⟩))), (bl_ BK546), (bl_ BK547), (bl_ BK563), GW563.out, GE563.out, NB546_563.out, NB563_546.out, NB547_563.out, NB563_547.out, (Bl_ HB)⟩)
                ·skip
                 refine box_step ?hg (N := 6) ?hd (cs := #[.int .i64 0, .slice none 0 0]) (t := 28) ?hr ?_; (case hd => rfl); (case hg => rfl); (case hr => first | (go_simp; done) | (go_simp; rfl))
                 intro gb563 hg w60 hbox hb
                 have BK563 := Aside0.mk (hbox)
                 have GW563 := Aside0.mk ((by rw [hg]; exact (below_size (Bl_ HB)) : w.heap.size ≤ gb563))
                 have GE563 := Aside0.mk ((by rw [hg]; exact (below_size (Bl_ HB)) : w.heap.size ≤ gb563))
                 replace HB := Aside0.mk (below_step (Bl_ HB) hb)
                 have NB546_563 := Aside0.mk ((by rw [hg]; exact Nat.ne_of_lt (blk_lt (g := gb546) (o := .cells #[.int .i64 a0_0, .slice A0_1 l0_1.length c0_1] 24 (0, 0)) (bl_ BK546)) : gb546 ≠ gb563))
                 have NB563_546 := Aside0.mk ((by rw [hg]; exact Nat.ne_of_gt (blk_lt (g := gb546) (o := .cells #[.int .i64 a0_0, .slice A0_1 l0_1.length c0_1] 24 (0, 0)) (bl_ BK546)) : gb563 ≠ gb546))
                 replace BK546 := blkB_ BK546 hb
                 have NB547_563 := Aside0.mk ((by rw [hg]; exact Nat.ne_of_lt (blk_lt (g := gb547) (o := .cells #[.int .i64 a1_0, .slice A1_1 l1_1.length c1_1] 24 (0, 0)) (bl_ BK547)) : gb547 ≠ gb563))
                 have NB563_547 := Aside0.mk ((by rw [hg]; exact Nat.ne_of_gt (blk_lt (g := gb547) (o := .cells #[.int .i64 a1_0, .slice A1_1 l1_1.length c1_1] 24 (0, 0)) (bl_ BK547)) : gb563 ≠ gb547))
                 replace BK547 := blkB_ BK547 hb
                 clear hb hbox hg
                 refine hK.out _ _ ⟨(blk_cell BK546.out 0).trans rfl, (blk_cell BK546.out 1).trans rfl, (blk_cell BK547.out 0).trans rfl, (blk_cell BK547.out 1).trans rfl⟩ (fun hHeld => ?_)
                 clear hK K
                 refine norm_ (a' := ?_) ?_ ?_
                 rotate_left
                 ·show Act.put _ (some 6) _ = _
                  simp only [Act.put, List.setIfInBounds_toArray, List.set_cons_zero, List.set_cons_succ, i64_w, i32_w]
                  rfl
                 refine one_ (i := 1) (N := some 29) #[true, true, true, false, false, false, false, false, true, false, false] rfl rfl (one_of HT_.out (by kernel_rfl)) (by decide) (fun K hK => ?_)
                 refine gs_ Try.func17 (by kernel_rfl) rfl #[.agg #[.int .i64 a0_0, .slice A0_1 l0_1.length c0_1]] (by rfl) rfl rfl ?_
                 with_reducible refine (laws_toLadder.calls k a0_0 _ _ l0_1 t550 t551 _ ?side1 ?side2 A19.out).mono ?_
                 (case side1 => exact Cl_ (Kd.C_below HR0_1.out HB.out))
                 (case side2 => exact HC0_1.out)
                 rintro e w61 ⟨v552, rfl, ho0, hb⟩
                 refine ⟨_, rfl, ?_⟩
                 have HO553 := Aside0.mk (Kd.R_lower ho0 (below_size (Bl_ HB)))
                 replace BK546 := blkB_ BK546 hb
                 replace BK547 := blkB_ BK547 hb
                 replace BK563 := blkB_ BK563 hb
                 replace HB := Aside0.mk (below_step (Bl_ HB) hb)
                 (try clear hb); (try clear hb2); (try clear hk); (try clear hi); (try clear ho0)
                 refine hK.out _ _ ⟨(blk_cell BK546.out 0).trans rfl, (blk_cell BK546.out 1).trans rfl, (blk_cell BK547.out 0).trans rfl, (blk_cell BK547.out 1).trans rfl⟩ (fun hHeld => ?_)
                 clear hK K
                 refine norm_ (a' := ?_) ?_ ?_
                 rotate_left
                 ·show Act.put _ (some 29) _ = _
                  simp only [Act.put, List.setIfInBounds_toArray, List.set_cons_zero, List.set_cons_succ, i64_w, i32_w]
                  rfl
                 refine one_ (i := 3) (N := some 31) #[true, true, true, true, false, false, false, false, true, false, false] rfl rfl (one_of HT_.out (by kernel_rfl)) (by decide) (fun K hK => ?_)
                 refine gs_ Try.func17 (by kernel_rfl) rfl #[.agg #[.int .i64 a1_0, .slice A1_1 l1_1.length c1_1]] (by rfl) rfl rfl ?_
                 with_reducible refine (laws_toLadder.calls k a1_0 _ _ l1_1 t554 t555 _ ?side1 ?side2 A20.out).mono ?_
                 (case side1 => exact Cl_ (Kd.C_below HR1_1.out HB.out))
                 (case side2 => exact HC1_1.out)
                 rintro e w62 ⟨v556, rfl, ho0, hb⟩
                 refine ⟨_, rfl, ?_⟩
                 have HO557 := Aside0.mk (Kd.R_lower (Kd.R_new' ho0 (Kd.R_lt (Rl_ HO553.out))) (below_size (Bl_ HB)))
                 replace HO553 := Aside0.mk (Kd.R_elder' (Rl_ HO553.out) (Kd.R_base ho0) hb)
                 replace BK546 := blkB_ BK546 hb
                 replace BK547 := blkB_ BK547 hb
                 replace BK563 := blkB_ BK563 hb
                 replace HB := Aside0.mk (below_step (Bl_ HB) hb)
                 (try clear hb); (try clear hb2); (try clear hk); (try clear hi); (try clear ho0)
                 obtain ⟨Ao63, co63, eo63⟩ := Kd.R_slice HO553.out
                 (first | subst eo63 | (injection eo63 with f1_ f2_ f3_; have f4_ := f1_.symm; have f5_ := f3_.symm; clear f1_ f2_ f3_; subst f4_; subst f5_))
                 obtain ⟨Ao64, co64, eo64⟩ := Kd.R_slice HO557.out
                 (first | subst eo64 | (injection eo64 with f1_ f2_ f3_; have f4_ := f1_.symm; have f5_ := f3_.symm; clear f1_ f2_ f3_; subst f4_; subst f5_))
                 refine hK.out _ _ ⟨(blk_cell BK546.out 0).trans rfl, (blk_cell BK546.out 1).trans rfl, (blk_cell BK547.out 0).trans rfl, (blk_cell BK547.out 1).trans rfl⟩ (fun hHeld => ?_)
                 clear hK K
                 refine norm_ (a' := ?_) ?_ ?_
                 rotate_left
                 ·show Act.put _ (some 31) _ = _
                  simp only [Act.put, List.setIfInBounds_toArray, List.set_cons_zero, List.set_cons_succ, i64_w, i32_w]
                  rfl
                 refine one_ (i := 4) (N := some 32) #[true, true, true, true, true, false, false, false, true, false, false] rfl rfl (one_of HT_.out (by kernel_rfl)) (by decide) (fun K hK => ?_)
                 refine gs_ Try.func36 (by kernel_rfl) rfl #[.agg #[.int .i64 t550, .slice Ao63 t551.length co63], .agg #[.int .i64 t554, .slice Ao64 t555.length co64]] (by rfl) rfl rfl ?_
                 with_reducible refine (spec_BesideLadders.calls k t550 _ _ t551 t554 _ _ t555 t558 t559 t562 _ ?side1 ?side2 ?side3 ?side4 A21.out).mono ?_
                 (case side1 => exact Cl_ (Kd.R_reads' HO553.out).2.2)
                 (case side2 => exact (Kd.R_reads' HO553.out).2.1)
                 (case side3 => exact Cl_ (Kd.R_reads' HO557.out).2.2)
                 (case side4 => exact (Kd.R_reads' HO557.out).2.1)
                 rintro e w65 ⟨v560, rfl, ho0, hb⟩
                 refine ⟨_, rfl, ?_⟩
                 have HO561 := Aside0.mk (Kd.R_lower (Kd.R_new' (Kd.R_new' ho0 (Kd.R_lt (Rl_ HO553.out))) (Kd.R_lt (Rl_ HO557.out))) (below_size (Bl_ HB)))
                 replace HO553 := Aside0.mk (Kd.R_elder' (Rl_ HO553.out) (Kd.R_base ho0) hb)
                 replace HO557 := Aside0.mk (Kd.R_elder' (Rl_ HO557.out) (Kd.R_base ho0) hb)
                 replace BK546 := blkB_ BK546 hb
                 replace BK547 := blkB_ BK547 hb
                 replace BK563 := blkB_ BK563 hb
                 replace HB := Aside0.mk (below_step (Bl_ HB) hb)
                 (try clear hb); (try clear hb2); (try clear hk); (try clear hi); (try clear ho0)
                 refine hK.out _ _ ⟨(blk_cell BK546.out 0).trans rfl, (blk_cell BK546.out 1).trans rfl, (blk_cell BK547.out 0).trans rfl, (blk_cell BK547.out 1).trans rfl⟩ (fun hHeld => ?_)
                 clear hK K
                 refine norm_ (a' := ?_) ?_ ?_
                 rotate_left
                 ·show Act.put _ (some 32) _ = _
                  simp only [Act.put, List.setIfInBounds_toArray, List.set_cons_zero, List.set_cons_succ, i64_w, i32_w]
                  rfl
                 refine pure_ (i := 5) (N := some 27) (v := ?_) (a' := ?_) #[true, true, true, true, true, true, false, false, true, false, false] rfl rfl (any_of HT_.out (by kernel_rfl)) (fun _ _ _ h => h) (Or.inl ⟨by rfl, ?_⟩) ?_ ?_
                 rotate_left
                 ·intro w'
                  go_simp
                  with_reducible rfl
                 rotate_left
                 ·simp only [Act.put, List.setIfInBounds_toArray, List.set_cons_zero, List.set_cons_succ, i64_w, i32_w]
                  rfl
                 refine pure_ (i := 6) (N := some 33) (v := ?_) (a' := ?_) #[true, true, true, true, true, true, true, false, true, false, false] rfl rfl (any_of HT_.out (by kernel_rfl)) (fun _ _ _ h => h) (Or.inl ⟨by rfl, ?_⟩) ?_ ?_
                 rotate_left
                 ·intro w'
                  go_simp
                  with_reducible rfl
                 rotate_left
                 ·simp only [Act.put, List.setIfInBounds_toArray, List.set_cons_zero, List.set_cons_succ, i64_w, i32_w]
                  rfl
                 refine pure_ (i := 7) (N := some 34) (v := ?_) (a' := ?_) #[true, true, true, true, true, true, true, true, true, false, false] rfl rfl (any_of HT_.out (by kernel_rfl)) (fun _ _ _ h => h) (Or.inl ⟨by rfl, ?_⟩) ?_ ?_
                 rotate_left
                 ·intro w'
                  go_simp
                  with_reducible rfl
                 rotate_left
                 ·simp only [Act.put, List.setIfInBounds_toArray, List.set_cons_zero, List.set_cons_succ, i64_w, i32_w]
                  rfl
                 exact norm_ (by simp only [putAll, Act.put, List.setIfInBounds_toArray, List.set_cons_zero, List.set_cons_succ]) (hCont (.slice Ao63 t551.length co63, .slice Ao64 t555.length co64, v560, gb563) _ ⟨hHeld, (Rl_ (Kd.R_mono HO553.out (fun _ hk => ⟨hk.1.2, hk.2⟩))), (Rl_ (Kd.R_mono HO557.out (fun _ hk => ⟨hk.1.2, hk.2⟩))), (Rl_ (Kd.R_mono HO561.out (fun _ hk => ⟨hk.1.2, hk.2⟩))), (bl_ BK546), (bl_ BK547), (bl_ BK563), GW563.out, GE563.out, NB546_563.out, NB563_546.out, NB547_563.out, NB563_547.out, (Bl_ HB)⟩)
               rintro ⟨v552, v556, v560, gb563⟩ w66 ⟨hS_, h0_, h1_, h2_, h3_, h4_, h5_, h6_, h7_, h8_, h9_, h10_, h11_, h12_⟩
               have HO553 : Aside0 (Kd.R (Kd.int .i64) 3 w66 w.heap.size (fun k_ => some k_ ≠ (v556 : Value).ownBlock ∧ some k_ ≠ (v560 : Value).ownBlock) v552 t551) := ⟨h0_⟩
               have HO557 : Aside0 (Kd.R (Kd.int .i64) 3 w66 w.heap.size (fun k_ => some k_ ≠ (v552 : Value).ownBlock ∧ some k_ ≠ (v560 : Value).ownBlock) v556 t555) := ⟨h1_⟩
               have HO561 : Aside0 (Kd.R (Kd.int .i64) 3 w66 w.heap.size (fun k_ => some k_ ≠ (v552 : Value).ownBlock ∧ some k_ ≠ (v556 : Value).ownBlock) v560 t559) := ⟨h2_⟩
               replace BK546 : Aside0 (w66.heap[gb546]? = some (.cells #[.int .i64 a0_0, .slice A0_1 l0_1.length c0_1] 24 (0, 0))) := ⟨h3_⟩
               replace BK547 : Aside0 (w66.heap[gb547]? = some (.cells #[.int .i64 a1_0, .slice A1_1 l1_1.length c1_1] 24 (0, 0))) := ⟨h4_⟩
               have BK563 : Aside0 (w66.heap[gb563]? = some (.cells #[.int .i64 0, .slice none 0 0] 28 (0, 0))) := ⟨h5_⟩
               have GW563 : Aside0 (w.heap.size ≤ gb563) := ⟨h6_⟩
               have GE563 : Aside0 (w.heap.size ≤ gb563) := ⟨h7_⟩
               have NB546_563 : Aside0 (gb546 ≠ gb563) := ⟨h8_⟩
               have NB563_546 : Aside0 (gb563 ≠ gb546) := ⟨h9_⟩
               have NB547_563 : Aside0 (gb547 ≠ gb563) := ⟨h10_⟩
               have NB563_547 : Aside0 (gb563 ≠ gb547) := ⟨h11_⟩
               replace HB : Aside0 (Below w.heap.size w w66) := ⟨h12_⟩
               clear h0_ h1_ h2_ h3_ h4_ h5_ h6_ h7_ h8_ h9_ h10_ h11_ h12_
               have hHeld : w66.cell? ⟨gb546, 0, none⟩ = some (.int .i64 a0_0) ∧ w66.cell? ⟨gb546, 1, none⟩ = some (.slice A0_1 l0_1.length c0_1) ∧ w66.cell? ⟨gb547, 0, none⟩ = some (.int .i64 a1_0) ∧ w66.cell? ⟨gb547, 1, none⟩ = some (.slice A1_1 l1_1.length c1_1) := hS_
               obtain ⟨Ao68, co68, eo68⟩ := Kd.R_slice HO561.out
               (first | subst eo68 | (injection eo68 with f1_ f2_ f3_; have f4_ := f1_.symm; have f5_ := f3_.symm; clear f1_ f2_ f3_; subst f4_; subst f5_))
               refine norm_ (a' := ?_) ?_ ?_
               rotate_left
               ·simp only [putAll, Act.put, List.setIfInBounds_toArray, List.set_cons_zero, List.set_cons_succ]
                rfl
               refine one_ (i := 9) (N := none) #[true, true, true, true, true, true, true, true, true, true, false] rfl rfl (one_of HT_.out (by kernel_rfl)) (by decide) (fun K hK => ?_)
               have hs67 : w66.cell? ⟨gb563, 0, none⟩ = some (.int .i64 0) := (blk_cell BK563.out 0).trans rfl
               have hfs67 := blk_frozen BK563.out 0
               have hns67_0 := NB546_563.out
               have hns67_1 := NB547_563.out
               have hms67_0 := NB563_546.out
               have hms67_1 := NB563_547.out
               have hs69 : w66.cell? ⟨gb563, 1, none⟩ = some (.slice none 0 0) := (blk_cell BK563.out 1).trans rfl
               have hfs69 := blk_frozen BK563.out 1
               have hns69_0 := NB546_563.out
               have hns69_1 := NB547_563.out
               have hms69_0 := NB563_546.out
               have hms69_1 := NB563_547.out
               refine skip_ (w1 := ?_) (by rfl) rfl ?_ ?_
               rotate_left
               ·go_simp
                rfl
               refine hK.out _ _ ⟨((cell_far (p := ⟨gb563, _, none⟩) NB546_563.out _).trans (((cell_far (p := ⟨gb563, _, none⟩) NB546_563.out _).trans (hHeld.1)))), ((cell_far (p := ⟨gb563, _, none⟩) NB546_563.out _).trans (((cell_far (p := ⟨gb563, _, none⟩) NB546_563.out _).trans (hHeld.2.1)))), ((cell_far (p := ⟨gb563, _, none⟩) NB547_563.out _).trans (((cell_far (p := ⟨gb563, _, none⟩) NB547_563.out _).trans (hHeld.2.2.1)))), ((cell_far (p := ⟨gb563, _, none⟩) NB547_563.out _).trans (((cell_far (p := ⟨gb563, _, none⟩) NB547_563.out _).trans (hHeld.2.2.2))))⟩ (fun hHeld => ?_)
               clear hK K
               refine pure_ (i := 10) (N := some 7) (v := ?_) (a' := ?_) #[true, true, true, true, true, true, true, true, true, true, true] rfl rfl (any_of HT_.out (by kernel_rfl)) (fun _ _ _ h => h) (Or.inl ⟨by rfl, ?_⟩) ?_ ?_
               rotate_left
               ·intro w'
                go_simp
                with_reducible rfl
               rotate_left
               ·simp only [Act.put, List.setIfInBounds_toArray, List.set_cons_zero, List.set_cons_succ, i64_w, i32_w]
                rfl
               refine done_ (done_of HT_.out (by kernel_rfl)) ?_
               have hnb70 := NB546_563.out
               have hnc70 := NB563_546.out
               have hcz71_0 : w66.cell? ⟨gb546, 0, none⟩ = some (.int .i64 a0_0) := (blk_cell BK546.out 0).trans rfl
               have hcz71_1 : w66.cell? ⟨gb546, 1, none⟩ = some (.slice A0_1 l0_1.length c0_1) := (blk_cell BK546.out 1).trans rfl
               have hfz71_0 := blk_frozen BK546.out 0
               have hfz71_1 := blk_frozen BK546.out 1
               try go_wp2_with (first | ((with_reducible refine gate_callee (f := 17) rfl ?_); refine gl_ (some 36) rfl rfl Try.func17 (by kernel_rfl) rfl #[.agg #[.int .i64 a0_0, .slice A0_1 l0_1.length c0_1]] rfl ?_; (with_reducible refine (laws_toLadder.calls k a0_0 _ _ l0_1 t564 t565 _ ?side1 ?side2 A22.out).mono ?_); (case side1 => exact Kd.C_below HR0_1.out (Bl_ HB)); (case side2 => exact HC0_1.out); rintro e w72 ⟨v566, rfl, ho0, hb⟩; refine ⟨_, rfl, ?_⟩; have HO567 := Aside0.mk (Kd.R_lower (Kd.R_new' (Kd.R_new' (Kd.R_new' ho0 (Kd.R_lt (Rl_ (Kd.R_mono (Kd.R_far (p := ⟨gb563, 1, none⟩) (Kd.R_far (p := ⟨gb563, 0, none⟩) (Kd.R_types HO553.out BK563.out (by decide)) (fun _ hk => hk.2) (.int .i64 t558)) (fun _ hk => hk.2) (.slice Ao68 t559.length co68)) (fun _ h_ => h_.1))))) (Kd.R_lt (Rl_ (Kd.R_mono (Kd.R_far (p := ⟨gb563, 1, none⟩) (Kd.R_far (p := ⟨gb563, 0, none⟩) (Kd.R_types HO557.out BK563.out (by decide)) (fun _ hk => hk.2) (.int .i64 t558)) (fun _ hk => hk.2) (.slice Ao68 t559.length co68)) (fun _ h_ => h_.1))))) (Kd.R_lt (Rl_ (Kd.R_mono (Kd.R_far (p := ⟨gb563, 1, none⟩) (Kd.R_far (p := ⟨gb563, 0, none⟩) (Kd.R_types HO561.out BK563.out (by decide)) (fun _ hk => hk.2) (.int .i64 t558)) (fun _ hk => hk.2) (.slice Ao68 t559.length co68)) (fun _ h_ => h_.1))))) (below_size (Bl_ HB))); replace HO553 := Aside0.mk (Kd.R_elder' (Rl_ (Kd.R_mono (Kd.R_far (p := ⟨gb563, 1, none⟩) (Kd.R_far (p := ⟨gb563, 0, none⟩) (Kd.R_types HO553.out BK563.out (by decide)) (fun _ hk => hk.2) (.int .i64 t558)) (fun _ hk => hk.2) (.slice Ao68 t559.length co68)) (fun _ h_ => h_.1))) (Kd.R_base ho0) hb); replace HO557 := Aside0.mk (Kd.R_elder' (Rl_ (Kd.R_mono (Kd.R_far (p := ⟨gb563, 1, none⟩) (Kd.R_far (p := ⟨gb563, 0, none⟩) (Kd.R_types HO557.out BK563.out (by decide)) (fun _ hk => hk.2) (.int .i64 t558)) (fun _ hk => hk.2) (.slice Ao68 t559.length co68)) (fun _ h_ => h_.1))) (Kd.R_base ho0) hb); replace HO561 := Aside0.mk (Kd.R_elder' (Rl_ (Kd.R_mono (Kd.R_far (p := ⟨gb563, 1, none⟩) (Kd.R_far (p := ⟨gb563, 0, none⟩) (Kd.R_types HO561.out BK563.out (by decide)) (fun _ hk => hk.2) (.int .i64 t558)) (fun _ hk => hk.2) (.slice Ao68 t559.length co68)) (fun _ h_ => h_.1))) (Kd.R_base ho0) hb); replace BK546 := Aside0.mk (blk_below (g := gb546) (o := .cells #[.int .i64 a0_0, .slice A0_1 l0_1.length c0_1] 24 (0, 0)) (by (with_reducible repeat (first | refine blk_drewN ?_ _ | refine blk_drew ?_ | refine blk_alloc ?_ _)); refine blk_far ?_ NB546_563.out _; (with_reducible repeat (first | refine blk_drewN ?_ _ | refine blk_drew ?_ | refine blk_alloc ?_ _)); refine blk_far ?_ NB546_563.out _; (with_reducible repeat (first | refine blk_drewN ?_ _ | refine blk_drew ?_ | refine blk_alloc ?_ _)); exact BK546.out) hb); replace BK547 := Aside0.mk (blk_below (g := gb547) (o := .cells #[.int .i64 a1_0, .slice A1_1 l1_1.length c1_1] 24 (0, 0)) (by (with_reducible repeat (first | refine blk_drewN ?_ _ | refine blk_drew ?_ | refine blk_alloc ?_ _)); refine blk_far ?_ NB547_563.out _; (with_reducible repeat (first | refine blk_drewN ?_ _ | refine blk_drew ?_ | refine blk_alloc ?_ _)); refine blk_far ?_ NB547_563.out _; (with_reducible repeat (first | refine blk_drewN ?_ _ | refine blk_drew ?_ | refine blk_alloc ?_ _)); exact BK547.out) hb); replace BK563 := Aside0.mk (blk_below (g := gb563) (o := .cells #[.int .i64 t558, .slice Ao68 t559.length co68] 28 (0, 0)) (by (with_reducible repeat (first | refine blk_drewN ?_ _ | refine blk_drew ?_ | refine blk_alloc ?_ _)); refine blk_put (cs := #[.int .i64 t558, .slice none 0 0]) ?_ 1 _ rfl; (with_reducible repeat (first | refine blk_drewN ?_ _ | refine blk_drew ?_ | refine blk_alloc ?_ _)); refine blk_put (cs := #[.int .i64 0, .slice none 0 0]) ?_ 0 _ rfl; (with_reducible repeat (first | refine blk_drewN ?_ _ | refine blk_drew ?_ | refine blk_alloc ?_ _)); exact BK563.out) hb); replace HB := Aside0.mk (below_step (Bl_ HB) hb); (try clear hb); (try clear hb2); (try clear hk); (try clear hi); (try clear ho0)) | ((with_reducible refine gate_dst (N := 8) rfl ?_); refine box_event ?hg (N := 8) ?hd (cs := #[.int .i64 0, .slice none 0 0]) (t := 28) ?hr ?_; (case hd => rfl); (case hg => rfl); (case hr => first | (go_simp; done) | (go_simp; rfl)); intro gb568 hg w73 hbox hb; replace HO553 := Aside0.mk (Kd.R_below (Rl_ HO553.out) hb); replace HO557 := Aside0.mk (Kd.R_below (Rl_ HO557.out) hb); replace HO561 := Aside0.mk (Kd.R_below (Rl_ HO561.out) hb); replace HO567 := Aside0.mk (Kd.R_below (Rl_ HO567.out) hb); have BK568 := Aside0.mk (hbox); have GW568 := Aside0.mk ((by rw [hg]; exact (below_size (Bl_ HB)) : w.heap.size ≤ gb568)); have GE568 := Aside0.mk ((by rw [hg]; exact (below_size (Bl_ HB)) : w.heap.size ≤ gb568)); replace HB := Aside0.mk (below_step (Bl_ HB) hb); have NB546_568 := Aside0.mk ((by rw [hg]; exact Nat.ne_of_lt (blk_lt (g := gb546) (o := .cells #[.int .i64 a0_0, .slice A0_1 l0_1.length c0_1] 24 (0, 0)) (bl_ BK546)) : gb546 ≠ gb568)); have NB568_546 := Aside0.mk ((by rw [hg]; exact Nat.ne_of_gt (blk_lt (g := gb546) (o := .cells #[.int .i64 a0_0, .slice A0_1 l0_1.length c0_1] 24 (0, 0)) (bl_ BK546)) : gb568 ≠ gb546)); replace BK546 := blkB_ BK546 hb; have NB547_568 := Aside0.mk ((by rw [hg]; exact Nat.ne_of_lt (blk_lt (g := gb547) (o := .cells #[.int .i64 a1_0, .slice A1_1 l1_1.length c1_1] 24 (0, 0)) (bl_ BK547)) : gb547 ≠ gb568)); have NB568_547 := Aside0.mk ((by rw [hg]; exact Nat.ne_of_gt (blk_lt (g := gb547) (o := .cells #[.int .i64 a1_0, .slice A1_1 l1_1.length c1_1] 24 (0, 0)) (bl_ BK547)) : gb568 ≠ gb547)); replace BK547 := blkB_ BK547 hb; have NB563_568 := Aside0.mk ((by rw [hg]; exact Nat.ne_of_lt (blk_lt (g := gb563) (o := .cells #[.int .i64 t558, .slice Ao68 t559.length co68] 28 (0, 0)) (bl_ BK563)) : gb563 ≠ gb568)); have NB568_563 := Aside0.mk ((by rw [hg]; exact Nat.ne_of_gt (blk_lt (g := gb563) (o := .cells #[.int .i64 t558, .slice Ao68 t559.length co68] 28 (0, 0)) (bl_ BK563)) : gb568 ≠ gb563)); replace BK563 := blkB_ BK563 hb; clear hb hbox hg; have hnb74 := NB568_546.out; have hnc74 := NB546_568.out; have hnb75 := NB568_547.out; have hnc75 := NB547_568.out; have hnb76 := NB568_563.out; have hnc76 := NB563_568.out; have hcz77_0 : w73.cell? ⟨gb568, 0, none⟩ = some (.int .i64 0) := (blk_cell BK568.out 0).trans rfl; have hcz77_1 : w73.cell? ⟨gb568, 1, none⟩ = some (.slice none 0 0) := (blk_cell BK568.out 1).trans rfl; have hfz77_0 := blk_frozen BK568.out 0; have hfz77_1 := blk_frozen BK568.out 1; obtain ⟨Ao78, co78, eo78⟩ := Kd.R_slice HO567.out; subst eo78; have hnb79 := NB547_563.out; have hnc79 := NB563_547.out; have hcz80_0 : w73.cell? ⟨gb547, 0, none⟩ = some (.int .i64 a1_0) := (blk_cell BK547.out 0).trans rfl; have hcz80_1 : w73.cell? ⟨gb547, 1, none⟩ = some (.slice A1_1 l1_1.length c1_1) := (blk_cell BK547.out 1).trans rfl; have hfz80_0 := blk_frozen BK547.out 0; have hfz80_1 := blk_frozen BK547.out 1) | ((with_reducible refine gate_callee (f := 17) rfl ?_); refine gl_ (some 38) rfl rfl Try.func17 (by kernel_rfl) rfl #[.agg #[.int .i64 a1_0, .slice A1_1 l1_1.length c1_1]] rfl ?_; (with_reducible refine (laws_toLadder.calls k a1_0 _ _ l1_1 t569 t570 _ ?side1 ?side2 A23.out).mono ?_); (case side1 => exact Kd.C_below HR1_1.out (Bl_ HB)); (case side2 => exact HC1_1.out); rintro e w81 ⟨v571, rfl, ho0, hb⟩; refine ⟨_, rfl, ?_⟩; have HO572 := Aside0.mk (Kd.R_lower (Kd.R_new' (Kd.R_new' (Kd.R_new' (Kd.R_new' ho0 (Kd.R_lt (Rl_ (Kd.R_mono (Kd.R_far (p := ⟨gb568, 1, none⟩) (Kd.R_far (p := ⟨gb568, 0, none⟩) (Kd.R_types HO553.out BK568.out (by decide)) (fun _ hk => hk.2) (.int .i64 t564)) (fun _ hk => hk.2) (.slice Ao78 t565.length co78)) (fun _ h_ => h_.1))))) (Kd.R_lt (Rl_ (Kd.R_mono (Kd.R_far (p := ⟨gb568, 1, none⟩) (Kd.R_far (p := ⟨gb568, 0, none⟩) (Kd.R_types HO557.out BK568.out (by decide)) (fun _ hk => hk.2) (.int .i64 t564)) (fun _ hk => hk.2) (.slice Ao78 t565.length co78)) (fun _ h_ => h_.1))))) (Kd.R_lt (Rl_ (Kd.R_mono (Kd.R_far (p := ⟨gb568, 1, none⟩) (Kd.R_far (p := ⟨gb568, 0, none⟩) (Kd.R_types HO561.out BK568.out (by decide)) (fun _ hk => hk.2) (.int .i64 t564)) (fun _ hk => hk.2) (.slice Ao78 t565.length co78)) (fun _ h_ => h_.1))))) (Kd.R_lt (Rl_ (Kd.R_mono (Kd.R_far (p := ⟨gb568, 1, none⟩) (Kd.R_far (p := ⟨gb568, 0, none⟩) (Kd.R_types HO567.out BK568.out (by decide)) (fun _ hk => hk.2) (.int .i64 t564)) (fun _ hk => hk.2) (.slice Ao78 t565.length co78)) (fun _ h_ => h_.1))))) (below_size (Bl_ HB))); replace HO553 := Aside0.mk (Kd.R_elder' (Rl_ (Kd.R_mono (Kd.R_far (p := ⟨gb568, 1, none⟩) (Kd.R_far (p := ⟨gb568, 0, none⟩) (Kd.R_types HO553.out BK568.out (by decide)) (fun _ hk => hk.2) (.int .i64 t564)) (fun _ hk => hk.2) (.slice Ao78 t565.length co78)) (fun _ h_ => h_.1))) (Kd.R_base ho0) hb); replace HO557 := Aside0.mk (Kd.R_elder' (Rl_ (Kd.R_mono (Kd.R_far (p := ⟨gb568, 1, none⟩) (Kd.R_far (p := ⟨gb568, 0, none⟩) (Kd.R_types HO557.out BK568.out (by decide)) (fun _ hk => hk.2) (.int .i64 t564)) (fun _ hk => hk.2) (.slice Ao78 t565.length co78)) (fun _ h_ => h_.1))) (Kd.R_base ho0) hb); replace HO561 := Aside0.mk (Kd.R_elder' (Rl_ (Kd.R_mono (Kd.R_far (p := ⟨gb568, 1, none⟩) (Kd.R_far (p := ⟨gb568, 0, none⟩) (Kd.R_types HO561.out BK568.out (by decide)) (fun _ hk => hk.2) (.int .i64 t564)) (fun _ hk => hk.2) (.slice Ao78 t565.length co78)) (fun _ h_ => h_.1))) (Kd.R_base ho0) hb); replace HO567 := Aside0.mk (Kd.R_elder' (Rl_ (Kd.R_mono (Kd.R_far (p := ⟨gb568, 1, none⟩) (Kd.R_far (p := ⟨gb568, 0, none⟩) (Kd.R_types HO567.out BK568.out (by decide)) (fun _ hk => hk.2) (.int .i64 t564)) (fun _ hk => hk.2) (.slice Ao78 t565.length co78)) (fun _ h_ => h_.1))) (Kd.R_base ho0) hb); replace BK546 := Aside0.mk (blk_below (g := gb546) (o := .cells #[.int .i64 a0_0, .slice A0_1 l0_1.length c0_1] 24 (0, 0)) (by (with_reducible repeat (first | refine blk_drewN ?_ _ | refine blk_drew ?_ | refine blk_alloc ?_ _)); refine blk_far ?_ NB546_568.out _; (with_reducible repeat (first | refine blk_drewN ?_ _ | refine blk_drew ?_ | refine blk_alloc ?_ _)); refine blk_far ?_ NB546_568.out _; (with_reducible repeat (first | refine blk_drewN ?_ _ | refine blk_drew ?_ | refine blk_alloc ?_ _)); exact BK546.out) hb); replace BK547 := Aside0.mk (blk_below (g := gb547) (o := .cells #[.int .i64 a1_0, .slice A1_1 l1_1.length c1_1] 24 (0, 0)) (by (with_reducible repeat (first | refine blk_drewN ?_ _ | refine blk_drew ?_ | refine blk_alloc ?_ _)); refine blk_far ?_ NB547_568.out _; (with_reducible repeat (first | refine blk_drewN ?_ _ | refine blk_drew ?_ | refine blk_alloc ?_ _)); refine blk_far ?_ NB547_568.out _; (with_reducible repeat (first | refine blk_drewN ?_ _ | refine blk_drew ?_ | refine blk_alloc ?_ _)); exact BK547.out) hb); replace BK563 := Aside0.mk (blk_below (g := gb563) (o := .cells #[.int .i64 t558, .slice Ao68 t559.length co68] 28 (0, 0)) (by (with_reducible repeat (first | refine blk_drewN ?_ _ | refine blk_drew ?_ | refine blk_alloc ?_ _)); refine blk_far ?_ NB563_568.out _; (with_reducible repeat (first | refine blk_drewN ?_ _ | refine blk_drew ?_ | refine blk_alloc ?_ _)); refine blk_far ?_ NB563_568.out _; (with_reducible repeat (first | refine blk_drewN ?_ _ | refine blk_drew ?_ | refine blk_alloc ?_ _)); exact BK563.out) hb); replace BK568 := Aside0.mk (blk_below (g := gb568) (o := .cells #[.int .i64 t564, .slice Ao78 t565.length co78] 28 (0, 0)) (by (with_reducible repeat (first | refine blk_drewN ?_ _ | refine blk_drew ?_ | refine blk_alloc ?_ _)); refine blk_put (cs := #[.int .i64 t564, .slice none 0 0]) ?_ 1 _ rfl; (with_reducible repeat (first | refine blk_drewN ?_ _ | refine blk_drew ?_ | refine blk_alloc ?_ _)); refine blk_put (cs := #[.int .i64 0, .slice none 0 0]) ?_ 0 _ rfl; (with_reducible repeat (first | refine blk_drewN ?_ _ | refine blk_drew ?_ | refine blk_alloc ?_ _)); exact BK568.out) hb); replace HB := Aside0.mk (below_step (Bl_ HB) hb); (try clear hb); (try clear hb2); (try clear hk); (try clear hi); (try clear ho0)) | ((with_reducible refine gate_dst (N := 9) rfl ?_); refine box_event ?hg (N := 9) ?hd (cs := #[.int .i64 0, .slice none 0 0]) (t := 28) ?hr ?_; (case hd => rfl); (case hg => rfl); (case hr => first | (go_simp; done) | (go_simp; rfl)); intro gb573 hg w82 hbox hb; replace HO553 := Aside0.mk (Kd.R_below (Rl_ HO553.out) hb); replace HO557 := Aside0.mk (Kd.R_below (Rl_ HO557.out) hb); replace HO561 := Aside0.mk (Kd.R_below (Rl_ HO561.out) hb); replace HO567 := Aside0.mk (Kd.R_below (Rl_ HO567.out) hb); replace HO572 := Aside0.mk (Kd.R_below (Rl_ HO572.out) hb); have BK573 := Aside0.mk (hbox); have GW573 := Aside0.mk ((by rw [hg]; exact (below_size (Bl_ HB)) : w.heap.size ≤ gb573)); have GE573 := Aside0.mk ((by rw [hg]; exact (below_size (Bl_ HB)) : w.heap.size ≤ gb573)); replace HB := Aside0.mk (below_step (Bl_ HB) hb); have NB546_573 := Aside0.mk ((by rw [hg]; exact Nat.ne_of_lt (blk_lt (g := gb546) (o := .cells #[.int .i64 a0_0, .slice A0_1 l0_1.length c0_1] 24 (0, 0)) (bl_ BK546)) : gb546 ≠ gb573)); have NB573_546 := Aside0.mk ((by rw [hg]; exact Nat.ne_of_gt (blk_lt (g := gb546) (o := .cells #[.int .i64 a0_0, .slice A0_1 l0_1.length c0_1] 24 (0, 0)) (bl_ BK546)) : gb573 ≠ gb546)); replace BK546 := blkB_ BK546 hb; have NB547_573 := Aside0.mk ((by rw [hg]; exact Nat.ne_of_lt (blk_lt (g := gb547) (o := .cells #[.int .i64 a1_0, .slice A1_1 l1_1.length c1_1] 24 (0, 0)) (bl_ BK547)) : gb547 ≠ gb573)); have NB573_547 := Aside0.mk ((by rw [hg]; exact Nat.ne_of_gt (blk_lt (g := gb547) (o := .cells #[.int .i64 a1_0, .slice A1_1 l1_1.length c1_1] 24 (0, 0)) (bl_ BK547)) : gb573 ≠ gb547)); replace BK547 := blkB_ BK547 hb; have NB563_573 := Aside0.mk ((by rw [hg]; exact Nat.ne_of_lt (blk_lt (g := gb563) (o := .cells #[.int .i64 t558, .slice Ao68 t559.length co68] 28 (0, 0)) (bl_ BK563)) : gb563 ≠ gb573)); have NB573_563 := Aside0.mk ((by rw [hg]; exact Nat.ne_of_gt (blk_lt (g := gb563) (o := .cells #[.int .i64 t558, .slice Ao68 t559.length co68] 28 (0, 0)) (bl_ BK563)) : gb573 ≠ gb563)); replace BK563 := blkB_ BK563 hb; have NB568_573 := Aside0.mk ((by rw [hg]; exact Nat.ne_of_lt (blk_lt (g := gb568) (o := .cells #[.int .i64 t564, .slice Ao78 t565.length co78] 28 (0, 0)) (bl_ BK568)) : gb568 ≠ gb573)); have NB573_568 := Aside0.mk ((by rw [hg]; exact Nat.ne_of_gt (blk_lt (g := gb568) (o := .cells #[.int .i64 t564, .slice Ao78 t565.length co78] 28 (0, 0)) (bl_ BK568)) : gb573 ≠ gb568)); replace BK568 := blkB_ BK568 hb; clear hb hbox hg; have hnb83 := NB573_546.out; have hnc83 := NB546_573.out; have hnb84 := NB573_547.out; have hnc84 := NB547_573.out; have hnb85 := NB573_563.out; have hnc85 := NB563_573.out; have hnb86 := NB573_568.out; have hnc86 := NB568_573.out; have hcz87_0 : w82.cell? ⟨gb573, 0, none⟩ = some (.int .i64 0) := (blk_cell BK573.out 0).trans rfl; have hcz87_1 : w82.cell? ⟨gb573, 1, none⟩ = some (.slice none 0 0) := (blk_cell BK573.out 1).trans rfl; have hfz87_0 := blk_frozen BK573.out 0; have hfz87_1 := blk_frozen BK573.out 1; obtain ⟨Ao88, co88, eo88⟩ := Kd.R_slice HO572.out; subst eo88; have hcz89_0 : w82.cell? ⟨gb568, 0, none⟩ = some (.int .i64 t564) := (blk_cell BK568.out 0).trans rfl; have hcz89_1 : w82.cell? ⟨gb568, 1, none⟩ = some (.slice Ao78 t565.length co78) := (blk_cell BK568.out 1).trans rfl; have hfz89_0 := blk_frozen BK568.out 0; have hfz89_1 := blk_frozen BK568.out 1) | ((with_reducible refine gate_callee (f := 37) rfl ?_); refine gl_ (some 42) rfl rfl Try.func37 (by kernel_rfl) rfl #[.agg #[.int .i64 t564, .slice Ao78 t565.length co78], .agg #[.int .i64 t569, .slice Ao88 t570.length co88]] rfl ?_; (with_reducible refine (impl_BesideLadders.calls k t564 _ _ t565 t569 _ _ t570 t574 t575 t578 _ ?side1 ?side2 ?side3 ?side4 A24.out).mono ?_); (case side1 => refine (Kd.R_reads' (e := 3) (base := w.heap.size) (ok := fun k_ => ((((True ∧ some k_ ≠ (v552 : Value).ownBlock) ∧ some k_ ≠ (v556 : Value).ownBlock) ∧ some k_ ≠ (.slice Ao68 t559.length co68 : Value).ownBlock) ∧ some k_ ≠ (.slice Ao88 t570.length co88 : Value).ownBlock)) (n := t565.length) (c := co78) ?_).2.2; exact (Rl_ (Kd.R_mono (Kd.R_far (p := ⟨gb573, 1, none⟩) (Kd.R_far (p := ⟨gb573, 0, none⟩) (Kd.R_types HO567.out BK573.out (by decide)) (fun _ hk => hk.2) (.int .i64 t569)) (fun _ hk => hk.2) (.slice Ao88 t570.length co88)) (fun _ h_ => h_.1)))); (case side2 => exact (Kd.R_reads' HO567.out).2.1); (case side3 => refine (Kd.R_reads' (e := 3) (base := w.heap.size) (ok := fun k_ => ((((True ∧ some k_ ≠ (v552 : Value).ownBlock) ∧ some k_ ≠ (v556 : Value).ownBlock) ∧ some k_ ≠ (.slice Ao68 t559.length co68 : Value).ownBlock) ∧ some k_ ≠ (.slice Ao78 t565.length co78 : Value).ownBlock)) (n := t570.length) (c := co88) ?_).2.2; exact (Rl_ (Kd.R_mono (Kd.R_far (p := ⟨gb573, 1, none⟩) (Kd.R_far (p := ⟨gb573, 0, none⟩) (Kd.R_types HO572.out BK573.out (by decide)) (fun _ hk => hk.2) (.int .i64 t569)) (fun _ hk => hk.2) (.slice Ao88 t570.length co88)) (fun _ h_ => h_.1)))); (case side4 => exact (Kd.R_reads' HO572.out).2.1); rintro e w90 ⟨v576, rfl, ho0, hb⟩; refine ⟨_, rfl, ?_⟩; have HO577 := Aside0.mk (Kd.R_lower (Kd.R_new' (Kd.R_new' (Kd.R_new' (Kd.R_new' (Kd.R_new' ho0 (Kd.R_lt (Rl_ (Kd.R_mono (Kd.R_far (p := ⟨gb573, 1, none⟩) (Kd.R_far (p := ⟨gb573, 0, none⟩) (Kd.R_types HO553.out BK573.out (by decide)) (fun _ hk => hk.2) (.int .i64 t569)) (fun _ hk => hk.2) (.slice Ao88 t570.length co88)) (fun _ h_ => h_.1))))) (Kd.R_lt (Rl_ (Kd.R_mono (Kd.R_far (p := ⟨gb573, 1, none⟩) (Kd.R_far (p := ⟨gb573, 0, none⟩) (Kd.R_types HO557.out BK573.out (by decide)) (fun _ hk => hk.2) (.int .i64 t569)) (fun _ hk => hk.2) (.slice Ao88 t570.length co88)) (fun _ h_ => h_.1))))) (Kd.R_lt (Rl_ (Kd.R_mono (Kd.R_far (p := ⟨gb573, 1, none⟩) (Kd.R_far (p := ⟨gb573, 0, none⟩) (Kd.R_types HO561.out BK573.out (by decide)) (fun _ hk => hk.2) (.int .i64 t569)) (fun _ hk => hk.2) (.slice Ao88 t570.length co88)) (fun _ h_ => h_.1))))) (Kd.R_lt (Rl_ (Kd.R_mono (Kd.R_far (p := ⟨gb573, 1, none⟩) (Kd.R_far (p := ⟨gb573, 0, none⟩) (Kd.R_types HO567.out BK573.out (by decide)) (fun _ hk => hk.2) (.int .i64 t569)) (fun _ hk => hk.2) (.slice Ao88 t570.length co88)) (fun _ h_ => h_.1))))) (Kd.R_lt (Rl_ (Kd.R_mono (Kd.R_far (p := ⟨gb573, 1, none⟩) (Kd.R_far (p := ⟨gb573, 0, none⟩) (Kd.R_types HO572.out BK573.out (by decide)) (fun _ hk => hk.2) (.int .i64 t569)) (fun _ hk => hk.2) (.slice Ao88 t570.length co88)) (fun _ h_ => h_.1))))) (below_size (Bl_ HB))); replace HO553 := Aside0.mk (Kd.R_elder' (Rl_ (Kd.R_mono (Kd.R_far (p := ⟨gb573, 1, none⟩) (Kd.R_far (p := ⟨gb573, 0, none⟩) (Kd.R_types HO553.out BK573.out (by decide)) (fun _ hk => hk.2) (.int .i64 t569)) (fun _ hk => hk.2) (.slice Ao88 t570.length co88)) (fun _ h_ => h_.1))) (Kd.R_base ho0) hb); replace HO557 := Aside0.mk (Kd.R_elder' (Rl_ (Kd.R_mono (Kd.R_far (p := ⟨gb573, 1, none⟩) (Kd.R_far (p := ⟨gb573, 0, none⟩) (Kd.R_types HO557.out BK573.out (by decide)) (fun _ hk => hk.2) (.int .i64 t569)) (fun _ hk => hk.2) (.slice Ao88 t570.length co88)) (fun _ h_ => h_.1))) (Kd.R_base ho0) hb); replace HO561 := Aside0.mk (Kd.R_elder' (Rl_ (Kd.R_mono (Kd.R_far (p := ⟨gb573, 1, none⟩) (Kd.R_far (p := ⟨gb573, 0, none⟩) (Kd.R_types HO561.out BK573.out (by decide)) (fun _ hk => hk.2) (.int .i64 t569)) (fun _ hk => hk.2) (.slice Ao88 t570.length co88)) (fun _ h_ => h_.1))) (Kd.R_base ho0) hb); replace HO567 := Aside0.mk (Kd.R_elder' (Rl_ (Kd.R_mono (Kd.R_far (p := ⟨gb573, 1, none⟩) (Kd.R_far (p := ⟨gb573, 0, none⟩) (Kd.R_types HO567.out BK573.out (by decide)) (fun _ hk => hk.2) (.int .i64 t569)) (fun _ hk => hk.2) (.slice Ao88 t570.length co88)) (fun _ h_ => h_.1))) (Kd.R_base ho0) hb); replace HO572 := Aside0.mk (Kd.R_elder' (Rl_ (Kd.R_mono (Kd.R_far (p := ⟨gb573, 1, none⟩) (Kd.R_far (p := ⟨gb573, 0, none⟩) (Kd.R_types HO572.out BK573.out (by decide)) (fun _ hk => hk.2) (.int .i64 t569)) (fun _ hk => hk.2) (.slice Ao88 t570.length co88)) (fun _ h_ => h_.1))) (Kd.R_base ho0) hb); replace BK546 := Aside0.mk (blk_below (g := gb546) (o := .cells #[.int .i64 a0_0, .slice A0_1 l0_1.length c0_1] 24 (0, 0)) (by (with_reducible repeat (first | refine blk_drewN ?_ _ | refine blk_drew ?_ | refine blk_alloc ?_ _)); refine blk_far ?_ NB546_573.out _; (with_reducible repeat (first | refine blk_drewN ?_ _ | refine blk_drew ?_ | refine blk_alloc ?_ _)); refine blk_far ?_ NB546_573.out _; (with_reducible repeat (first | refine blk_drewN ?_ _ | refine blk_drew ?_ | refine blk_alloc ?_ _)); exact BK546.out) hb); replace BK547 := Aside0.mk (blk_below (g := gb547) (o := .cells #[.int .i64 a1_0, .slice A1_1 l1_1.length c1_1] 24 (0, 0)) (by (with_reducible repeat (first | refine blk_drewN ?_ _ | refine blk_drew ?_ | refine blk_alloc ?_ _)); refine blk_far ?_ NB547_573.out _; (with_reducible repeat (first | refine blk_drewN ?_ _ | refine blk_drew ?_ | refine blk_alloc ?_ _)); refine blk_far ?_ NB547_573.out _; (with_reducible repeat (first | refine blk_drewN ?_ _ | refine blk_drew ?_ | refine blk_alloc ?_ _)); exact BK547.out) hb); replace BK563 := Aside0.mk (blk_below (g := gb563) (o := .cells #[.int .i64 t558, .slice Ao68 t559.length co68] 28 (0, 0)) (by (with_reducible repeat (first | refine blk_drewN ?_ _ | refine blk_drew ?_ | refine blk_alloc ?_ _)); refine blk_far ?_ NB563_573.out _; (with_reducible repeat (first | refine blk_drewN ?_ _ | refine blk_drew ?_ | refine blk_alloc ?_ _)); refine blk_far ?_ NB563_573.out _; (with_reducible repeat (first | refine blk_drewN ?_ _ | refine blk_drew ?_ | refine blk_alloc ?_ _)); exact BK563.out) hb); replace BK568 := Aside0.mk (blk_below (g := gb568) (o := .cells #[.int .i64 t564, .slice Ao78 t565.length co78] 28 (0, 0)) (by (with_reducible repeat (first | refine blk_drewN ?_ _ | refine blk_drew ?_ | refine blk_alloc ?_ _)); refine blk_far ?_ NB568_573.out _; (with_reducible repeat (first | refine blk_drewN ?_ _ | refine blk_drew ?_ | refine blk_alloc ?_ _)); refine blk_far ?_ NB568_573.out _; (with_reducible repeat (first | refine blk_drewN ?_ _ | refine blk_drew ?_ | refine blk_alloc ?_ _)); exact BK568.out) hb); replace BK573 := Aside0.mk (blk_below (g := gb573) (o := .cells #[.int .i64 t569, .slice Ao88 t570.length co88] 28 (0, 0)) (by (with_reducible repeat (first | refine blk_drewN ?_ _ | refine blk_drew ?_ | refine blk_alloc ?_ _)); refine blk_put (cs := #[.int .i64 t569, .slice none 0 0]) ?_ 1 _ rfl; (with_reducible repeat (first | refine blk_drewN ?_ _ | refine blk_drew ?_ | refine blk_alloc ?_ _)); refine blk_put (cs := #[.int .i64 0, .slice none 0 0]) ?_ 0 _ rfl; (with_reducible repeat (first | refine blk_drewN ?_ _ | refine blk_drew ?_ | refine blk_alloc ?_ _)); exact BK573.out) hb); replace HB := Aside0.mk (below_step (Bl_ HB) hb); (try clear hb); (try clear hb2); (try clear hk); (try clear hi); (try clear ho0)) | ((with_reducible refine gate_dst (N := 10) rfl ?_); refine box_event ?hg (N := 10) ?hd (cs := #[.int .i64 0, .slice none 0 0]) (t := 28) ?hr ?_; (case hd => rfl); (case hg => rfl); (case hr => first | (go_simp; done) | (go_simp; rfl)); intro gb579 hg w91 hbox hb; replace HO553 := Aside0.mk (Kd.R_below (Rl_ HO553.out) hb); replace HO557 := Aside0.mk (Kd.R_below (Rl_ HO557.out) hb); replace HO561 := Aside0.mk (Kd.R_below (Rl_ HO561.out) hb); replace HO567 := Aside0.mk (Kd.R_below (Rl_ HO567.out) hb); replace HO572 := Aside0.mk (Kd.R_below (Rl_ HO572.out) hb); replace HO577 := Aside0.mk (Kd.R_below (Rl_ HO577.out) hb); have BK579 := Aside0.mk (hbox); have GW579 := Aside0.mk ((by rw [hg]; exact (below_size (Bl_ HB)) : w.heap.size ≤ gb579)); have GE579 := Aside0.mk ((by rw [hg]; exact (below_size (Bl_ HB)) : w.heap.size ≤ gb579)); replace HB := Aside0.mk (below_step (Bl_ HB) hb); have NB546_579 := Aside0.mk ((by rw [hg]; exact Nat.ne_of_lt (blk_lt (g := gb546) (o := .cells #[.int .i64 a0_0, .slice A0_1 l0_1.length c0_1] 24 (0, 0)) (bl_ BK546)) : gb546 ≠ gb579)); have NB579_546 := Aside0.mk ((by rw [hg]; exact Nat.ne_of_gt (blk_lt (g := gb546) (o := .cells #[.int .i64 a0_0, .slice A0_1 l0_1.length c0_1] 24 (0, 0)) (bl_ BK546)) : gb579 ≠ gb546)); replace BK546 := blkB_ BK546 hb; have NB547_579 := Aside0.mk ((by rw [hg]; exact Nat.ne_of_lt (blk_lt (g := gb547) (o := .cells #[.int .i64 a1_0, .slice A1_1 l1_1.length c1_1] 24 (0, 0)) (bl_ BK547)) : gb547 ≠ gb579)); have NB579_547 := Aside0.mk ((by rw [hg]; exact Nat.ne_of_gt (blk_lt (g := gb547) (o := .cells #[.int .i64 a1_0, .slice A1_1 l1_1.length c1_1] 24 (0, 0)) (bl_ BK547)) : gb579 ≠ gb547)); replace BK547 := blkB_ BK547 hb; have NB563_579 := Aside0.mk ((by rw [hg]; exact Nat.ne_of_lt (blk_lt (g := gb563) (o := .cells #[.int .i64 t558, .slice Ao68 t559.length co68] 28 (0, 0)) (bl_ BK563)) : gb563 ≠ gb579)); have NB579_563 := Aside0.mk ((by rw [hg]; exact Nat.ne_of_gt (blk_lt (g := gb563) (o := .cells #[.int .i64 t558, .slice Ao68 t559.length co68] 28 (0, 0)) (bl_ BK563)) : gb579 ≠ gb563)); replace BK563 := blkB_ BK563 hb; have NB568_579 := Aside0.mk ((by rw [hg]; exact Nat.ne_of_lt (blk_lt (g := gb568) (o := .cells #[.int .i64 t564, .slice Ao78 t565.length co78] 28 (0, 0)) (bl_ BK568)) : gb568 ≠ gb579)); have NB579_568 := Aside0.mk ((by rw [hg]; exact Nat.ne_of_gt (blk_lt (g := gb568) (o := .cells #[.int .i64 t564, .slice Ao78 t565.length co78] 28 (0, 0)) (bl_ BK568)) : gb579 ≠ gb568)); replace BK568 := blkB_ BK568 hb; have NB573_579 := Aside0.mk ((by rw [hg]; exact Nat.ne_of_lt (blk_lt (g := gb573) (o := .cells #[.int .i64 t569, .slice Ao88 t570.length co88] 28 (0, 0)) (bl_ BK573)) : gb573 ≠ gb579)); have NB579_573 := Aside0.mk ((by rw [hg]; exact Nat.ne_of_gt (blk_lt (g := gb573) (o := .cells #[.int .i64 t569, .slice Ao88 t570.length co88] 28 (0, 0)) (bl_ BK573)) : gb579 ≠ gb573)); replace BK573 := blkB_ BK573 hb; clear hb hbox hg; have hnb92 := NB579_546.out; have hnc92 := NB546_579.out; have hnb93 := NB579_547.out; have hnc93 := NB547_579.out; have hnb94 := NB579_563.out; have hnc94 := NB563_579.out; have hnb95 := NB579_568.out; have hnc95 := NB568_579.out; have hnb96 := NB579_573.out; have hnc96 := NB573_579.out; have hcz97_0 : w91.cell? ⟨gb579, 0, none⟩ = some (.int .i64 0) := (blk_cell BK579.out 0).trans rfl; have hcz97_1 : w91.cell? ⟨gb579, 1, none⟩ = some (.slice none 0 0) := (blk_cell BK579.out 1).trans rfl; have hfz97_0 := blk_frozen BK579.out 0; have hfz97_1 := blk_frozen BK579.out 1; obtain ⟨Ao98, co98, eo98⟩ := Kd.R_slice HO577.out; subst eo98; have hcz99_0 : w91.cell? ⟨gb563, 0, none⟩ = some (.int .i64 t558) := (blk_cell BK563.out 0).trans rfl; have hcz99_1 : w91.cell? ⟨gb563, 1, none⟩ = some (.slice Ao68 t559.length co68) := (blk_cell BK563.out 1).trans rfl; have hfz99_0 := blk_frozen BK563.out 0; have hfz99_1 := blk_frozen BK563.out 1) | ((with_reducible refine gate_callee (f := 19) rfl ?_); refine gl_ (some 47) rfl rfl Try.func19 (by kernel_rfl) rfl #[.agg #[.int .i64 t574, .slice Ao98 t575.length co98], .agg #[.int .i64 t558, .slice Ao68 t559.length co68]] rfl ?_; (with_reducible refine (laws_eqLadder.calls k t574 _ _ t575 t558 _ _ t559 true _ ?side1 ?side2 ?side3 ?side4 A25.out).mono ?_); (case side1 => refine (Kd.R_reads' (e := 3) (base := w.heap.size) (ok := fun k_ => (((((True ∧ some k_ ≠ (v552 : Value).ownBlock) ∧ some k_ ≠ (v556 : Value).ownBlock) ∧ some k_ ≠ (.slice Ao68 t559.length co68 : Value).ownBlock) ∧ some k_ ≠ (.slice Ao78 t565.length co78 : Value).ownBlock) ∧ some k_ ≠ (.slice Ao88 t570.length co88 : Value).ownBlock)) (n := t575.length) (c := co98) ?_).2.2; exact (Rl_ (Kd.R_mono (Kd.R_far (p := ⟨gb579, 1, none⟩) (Kd.R_far (p := ⟨gb579, 0, none⟩) (Kd.R_types HO577.out BK579.out (by decide)) (fun _ hk => hk.2) (.int .i64 t574)) (fun _ hk => hk.2) (.slice Ao98 t575.length co98)) (fun _ h_ => h_.1)))); (case side2 => exact (Kd.R_reads' HO577.out).2.1); (case side3 => refine (Kd.R_reads' (e := 3) (base := w.heap.size) (ok := fun k_ => ((((some k_ ≠ (v552 : Value).ownBlock ∧ some k_ ≠ (v556 : Value).ownBlock) ∧ some k_ ≠ (.slice Ao78 t565.length co78 : Value).ownBlock) ∧ some k_ ≠ (.slice Ao88 t570.length co88 : Value).ownBlock) ∧ some k_ ≠ (.slice Ao98 t575.length co98 : Value).ownBlock)) (n := t559.length) (c := co68) ?_).2.2; exact (Rl_ (Kd.R_mono (Kd.R_far (p := ⟨gb579, 1, none⟩) (Kd.R_far (p := ⟨gb579, 0, none⟩) (Kd.R_types HO561.out BK579.out (by decide)) (fun _ hk => hk.2) (.int .i64 t574)) (fun _ hk => hk.2) (.slice Ao98 t575.length co98)) (fun _ h_ => h_.1)))); (case side4 => exact (Kd.R_reads' HO561.out).2.1); rintro e w100 ⟨rfl, hb⟩; refine ⟨_, rfl, ?_⟩; replace HO553 := Aside0.mk (Kd.R_below (Rl_ (Kd.R_mono (Kd.R_far (p := ⟨gb579, 1, none⟩) (Kd.R_far (p := ⟨gb579, 0, none⟩) (Kd.R_types HO553.out BK579.out (by decide)) (fun _ hk => hk.2) (.int .i64 t574)) (fun _ hk => hk.2) (.slice Ao98 t575.length co98)) (fun _ h_ => h_.1))) hb); replace HO557 := Aside0.mk (Kd.R_below (Rl_ (Kd.R_mono (Kd.R_far (p := ⟨gb579, 1, none⟩) (Kd.R_far (p := ⟨gb579, 0, none⟩) (Kd.R_types HO557.out BK579.out (by decide)) (fun _ hk => hk.2) (.int .i64 t574)) (fun _ hk => hk.2) (.slice Ao98 t575.length co98)) (fun _ h_ => h_.1))) hb); replace HO561 := Aside0.mk (Kd.R_below (Rl_ (Kd.R_mono (Kd.R_far (p := ⟨gb579, 1, none⟩) (Kd.R_far (p := ⟨gb579, 0, none⟩) (Kd.R_types HO561.out BK579.out (by decide)) (fun _ hk => hk.2) (.int .i64 t574)) (fun _ hk => hk.2) (.slice Ao98 t575.length co98)) (fun _ h_ => h_.1))) hb); replace HO567 := Aside0.mk (Kd.R_below (Rl_ (Kd.R_mono (Kd.R_far (p := ⟨gb579, 1, none⟩) (Kd.R_far (p := ⟨gb579, 0, none⟩) (Kd.R_types HO567.out BK579.out (by decide)) (fun _ hk => hk.2) (.int .i64 t574)) (fun _ hk => hk.2) (.slice Ao98 t575.length co98)) (fun _ h_ => h_.1))) hb); replace HO572 := Aside0.mk (Kd.R_below (Rl_ (Kd.R_mono (Kd.R_far (p := ⟨gb579, 1, none⟩) (Kd.R_far (p := ⟨gb579, 0, none⟩) (Kd.R_types HO572.out BK579.out (by decide)) (fun _ hk => hk.2) (.int .i64 t574)) (fun _ hk => hk.2) (.slice Ao98 t575.length co98)) (fun _ h_ => h_.1))) hb); replace HO577 := Aside0.mk (Kd.R_below (Rl_ (Kd.R_mono (Kd.R_far (p := ⟨gb579, 1, none⟩) (Kd.R_far (p := ⟨gb579, 0, none⟩) (Kd.R_types HO577.out BK579.out (by decide)) (fun _ hk => hk.2) (.int .i64 t574)) (fun _ hk => hk.2) (.slice Ao98 t575.length co98)) (fun _ h_ => h_.1))) hb); replace BK546 := Aside0.mk (blk_below (g := gb546) (o := .cells #[.int .i64 a0_0, .slice A0_1 l0_1.length c0_1] 24 (0, 0)) (by (with_reducible repeat (first | refine blk_drewN ?_ _ | refine blk_drew ?_ | refine blk_alloc ?_ _)); refine blk_far ?_ NB546_579.out _; (with_reducible repeat (first | refine blk_drewN ?_ _ | refine blk_drew ?_ | refine blk_alloc ?_ _)); refine blk_far ?_ NB546_579.out _; (with_reducible repeat (first | refine blk_drewN ?_ _ | refine blk_drew ?_ | refine blk_alloc ?_ _)); exact BK546.out) hb); replace BK547 := Aside0.mk (blk_below (g := gb547) (o := .cells #[.int .i64 a1_0, .slice A1_1 l1_1.length c1_1] 24 (0, 0)) (by (with_reducible repeat (first | refine blk_drewN ?_ _ | refine blk_drew ?_ | refine blk_alloc ?_ _)); refine blk_far ?_ NB547_579.out _; (with_reducible repeat (first | refine blk_drewN ?_ _ | refine blk_drew ?_ | refine blk_alloc ?_ _)); refine blk_far ?_ NB547_579.out _; (with_reducible repeat (first | refine blk_drewN ?_ _ | refine blk_drew ?_ | refine blk_alloc ?_ _)); exact BK547.out) hb); replace BK563 := Aside0.mk (blk_below (g := gb563) (o := .cells #[.int .i64 t558, .slice Ao68 t559.length co68] 28 (0, 0)) (by (with_reducible repeat (first | refine blk_drewN ?_ _ | refine blk_drew ?_ | refine blk_alloc ?_ _)); refine blk_far ?_ NB563_579.out _; (with_reducible repeat (first | refine blk_drewN ?_ _ | refine blk_drew ?_ | refine blk_alloc ?_ _)); refine blk_far ?_ NB563_579.out _; (with_reducible repeat (first | refine blk_drewN ?_ _ | refine blk_drew ?_ | refine blk_alloc ?_ _)); exact BK563.out) hb); replace BK568 := Aside0.mk (blk_below (g := gb568) (o := .cells #[.int .i64 t564, .slice Ao78 t565.length co78] 28 (0, 0)) (by (with_reducible repeat (first | refine blk_drewN ?_ _ | refine blk_drew ?_ | refine blk_alloc ?_ _)); refine blk_far ?_ NB568_579.out _; (with_reducible repeat (first | refine blk_drewN ?_ _ | refine blk_drew ?_ | refine blk_alloc ?_ _)); refine blk_far ?_ NB568_579.out _; (with_reducible repeat (first | refine blk_drewN ?_ _ | refine blk_drew ?_ | refine blk_alloc ?_ _)); exact BK568.out) hb); replace BK573 := Aside0.mk (blk_below (g := gb573) (o := .cells #[.int .i64 t569, .slice Ao88 t570.length co88] 28 (0, 0)) (by (with_reducible repeat (first | refine blk_drewN ?_ _ | refine blk_drew ?_ | refine blk_alloc ?_ _)); refine blk_far ?_ NB573_579.out _; (with_reducible repeat (first | refine blk_drewN ?_ _ | refine blk_drew ?_ | refine blk_alloc ?_ _)); refine blk_far ?_ NB573_579.out _; (with_reducible repeat (first | refine blk_drewN ?_ _ | refine blk_drew ?_ | refine blk_alloc ?_ _)); exact BK573.out) hb); replace BK579 := Aside0.mk (blk_below (g := gb579) (o := .cells #[.int .i64 t574, .slice Ao98 t575.length co98] 28 (0, 0)) (by (with_reducible repeat (first | refine blk_drewN ?_ _ | refine blk_drew ?_ | refine blk_alloc ?_ _)); refine blk_put (cs := #[.int .i64 t574, .slice none 0 0]) ?_ 1 _ rfl; (with_reducible repeat (first | refine blk_drewN ?_ _ | refine blk_drew ?_ | refine blk_alloc ?_ _)); refine blk_put (cs := #[.int .i64 0, .slice none 0 0]) ?_ 0 _ rfl; (with_reducible repeat (first | refine blk_drewN ?_ _ | refine blk_drew ?_ | refine blk_alloc ?_ _)); exact BK579.out) hb); replace HB := Aside0.mk (below_step (Bl_ HB) hb); (try clear hb); (try clear hb2); (try clear hk); (try clear hi)))
               replace HO553 := Aside0.mk (Kd.R_drew HO553.out)
               replace HO557 := Aside0.mk (Kd.R_drew HO557.out)
               replace HO561 := Aside0.mk (Kd.R_drew HO561.out)
               replace HO567 := Aside0.mk (Kd.R_drew HO567.out)
               replace HO572 := Aside0.mk (Kd.R_drew HO572.out)
               replace HO577 := Aside0.mk (Kd.R_drew HO577.out)
               replace BK546 := Aside0.mk (blk_drew BK546.out)
               replace BK547 := Aside0.mk (blk_drew BK547.out)
               replace BK563 := Aside0.mk (blk_drew BK563.out)
               replace BK568 := Aside0.mk (blk_drew BK568.out)
               replace BK573 := Aside0.mk (blk_drew BK573.out)
               replace BK579 := Aside0.mk (blk_drew BK579.out)
               replace HB := Aside0.mk (below_drew1 HB.out)
               refine start_ (n := 5) (S := fun w' => w'.cell? ⟨gb568, 0, none⟩ = some (.int .i64 t564) ∧ w'.cell? ⟨gb568, 1, none⟩ = some (.slice Ao78 t565.length co78) ∧ w'.cell? ⟨gb546, 0, none⟩ = some (.int .i64 a0_0) ∧ w'.cell? ⟨gb546, 1, none⟩ = some (.slice A0_1 l0_1.length c0_1)) (ds := []) #[false, false, false, false, false] (by kernel_rfl) rfl rfl ⟨(blk_cell BK568.out 0).trans rfl, (blk_cell BK568.out 1).trans rfl, (blk_cell BK546.out 0).trans rfl, (blk_cell BK546.out 1).trans rfl⟩ (fun hHeld => ?_)
               generalize w100.drew = w101 at HO553 HO557 HO561 HO567 HO572 HO577 BK546 BK547 BK563 BK568 BK573 BK579 HB hHeld ⊢
               refine take_ (i := 0) (N := some 54) (v := ?_) (a' := ?_) #[true, false, false, false, false] rfl rfl (by kernel_rfl) (fun _ _ _ h => h) (Or.inl ⟨by rfl, ?_⟩) hHeld ?_ ?_
               rotate_left
               ·rintro w' ⟨s0, s1, s2, s3⟩
                go_simp
                with_reducible rfl
               rotate_left
               ·simp only [Act.put, List.setIfInBounds_toArray, List.set_cons_zero, List.set_cons_succ, i64_w, i32_w]
                rfl
               refine take_ (i := 1) (N := some 55) (v := ?_) (a' := ?_) #[true, true, false, false, false] rfl rfl (by kernel_rfl) (fun _ _ _ h => h) (Or.inl ⟨by rfl, ?_⟩) hHeld ?_ ?_
               rotate_left
               ·rintro w' ⟨s0, s1, s2, s3⟩
                go_simp
                with_reducible rfl
               rotate_left
               ·simp only [Act.put, List.setIfInBounds_toArray, List.set_cons_zero, List.set_cons_succ, i64_w, i32_w]
                rfl
               refine one_ (i := 2) (N := some 56) #[true, true, true, false, false] rfl rfl (by kernel_rfl) (by decide) (fun K hK => ?_)
               refine gs_ Try.func17 (by kernel_rfl) rfl #[.agg #[.int .i64 a0_0, .slice A0_1 l0_1.length c0_1]] (by rfl) rfl rfl ?_
               with_reducible refine (laws_toLadder.calls k a0_0 _ _ l0_1 t581 t582 _ ?side1 ?side2 A28.out).mono ?_
               (case side1 => exact Cl_ (Kd.C_below HR0_1.out HB.out))
               (case side2 => exact HC0_1.out)
               rintro e w102 ⟨v583, rfl, ho0, hb⟩
               refine ⟨_, rfl, ?_⟩
               have HO584 := Aside0.mk (Kd.R_lower (Kd.R_new' (Kd.R_new' (Kd.R_new' (Kd.R_new' (Kd.R_new' (Kd.R_new' ho0 (Kd.R_lt (Rl_ HO553.out))) (Kd.R_lt (Rl_ HO557.out))) (Kd.R_lt (Rl_ HO561.out))) (Kd.R_lt (Rl_ HO567.out))) (Kd.R_lt (Rl_ HO572.out))) (Kd.R_lt (Rl_ HO577.out))) (below_size (Bl_ HB)))
               replace HO553 := Aside0.mk (Kd.R_elder' (Rl_ HO553.out) (Kd.R_base ho0) hb)
               replace HO557 := Aside0.mk (Kd.R_elder' (Rl_ HO557.out) (Kd.R_base ho0) hb)
               replace HO561 := Aside0.mk (Kd.R_elder' (Rl_ HO561.out) (Kd.R_base ho0) hb)
               replace HO567 := Aside0.mk (Kd.R_elder' (Rl_ HO567.out) (Kd.R_base ho0) hb)
               replace HO572 := Aside0.mk (Kd.R_elder' (Rl_ HO572.out) (Kd.R_base ho0) hb)
               replace HO577 := Aside0.mk (Kd.R_elder' (Rl_ HO577.out) (Kd.R_base ho0) hb)
               replace BK546 := blkB_ BK546 hb
               replace BK547 := blkB_ BK547 hb
               replace BK563 := blkB_ BK563 hb
               replace BK568 := blkB_ BK568 hb
               replace BK573 := blkB_ BK573 hb
               replace BK579 := blkB_ BK579 hb
               replace HB := Aside0.mk (below_step (Bl_ HB) hb)
               (try clear hb); (try clear hb2); (try clear hk); (try clear hi); (try clear ho0)
               obtain ⟨Ao103, co103, eo103⟩ := Kd.R_slice HO584.out
               (first | subst eo103 | (injection eo103 with f1_ f2_ f3_; have f4_ := f1_.symm; have f5_ := f3_.symm; clear f1_ f2_ f3_; subst f4_; subst f5_))
               refine hK.out _ _ ⟨(blk_cell BK568.out 0).trans rfl, (blk_cell BK568.out 1).trans rfl, (blk_cell BK546.out 0).trans rfl, (blk_cell BK546.out 1).trans rfl⟩ (fun hHeld => ?_)
               clear hK K
               refine norm_ (a' := ?_) ?_ ?_
               rotate_left
               ·show Act.put _ (some 56) _ = _
                simp only [Act.put, List.setIfInBounds_toArray, List.set_cons_zero, List.set_cons_succ, i64_w, i32_w]
                rfl
               refine one_ (i := 3) (N := some 57) #[true, true, true, true, false] rfl rfl (by kernel_rfl) (by decide) (fun K hK => ?_)
               refine gs_ Try.func19 (by kernel_rfl) rfl #[.agg #[.int .i64 t564, .slice Ao78 t565.length co78], .agg #[.int .i64 t581, .slice Ao103 t582.length co103]] (by rfl) rfl rfl ?_
               with_reducible refine (laws_eqLadder.calls k t564 _ _ t565 t581 _ _ t582 true _ ?side1 ?side2 ?side3 ?side4 A29.out).mono ?_
               (case side1 => exact Cl_ (Kd.R_reads' HO567.out).2.2)
               (case side2 => exact (Kd.R_reads' HO567.out).2.1)
               (case side3 => exact Cl_ (Kd.R_reads' HO584.out).2.2)
               (case side4 => exact (Kd.R_reads' HO584.out).2.1)
               rintro e w104 ⟨rfl, hb⟩
               refine ⟨_, rfl, ?_⟩
               replace HO553 := Aside0.mk (Kd.R_below (Rl_ HO553.out) hb)
               replace HO557 := Aside0.mk (Kd.R_below (Rl_ HO557.out) hb)
               replace HO561 := Aside0.mk (Kd.R_below (Rl_ HO561.out) hb)
               replace HO567 := Aside0.mk (Kd.R_below (Rl_ HO567.out) hb)
               replace HO572 := Aside0.mk (Kd.R_below (Rl_ HO572.out) hb)
               replace HO577 := Aside0.mk (Kd.R_below (Rl_ HO577.out) hb)
               replace HO584 := Aside0.mk (Kd.R_below (Rl_ HO584.out) hb)
               replace BK546 := blkB_ BK546 hb
               replace BK547 := blkB_ BK547 hb
               replace BK563 := blkB_ BK563 hb
               replace BK568 := blkB_ BK568 hb
               replace BK573 := blkB_ BK573 hb
               replace BK579 := blkB_ BK579 hb
               replace HB := Aside0.mk (below_step (Bl_ HB) hb)
               (try clear hb); (try clear hb2); (try clear hk); (try clear hi); (try clear ho0)
               refine hK.out _ _ ⟨(blk_cell BK568.out 0).trans rfl, (blk_cell BK568.out 1).trans rfl, (blk_cell BK546.out 0).trans rfl, (blk_cell BK546.out 1).trans rfl⟩ (fun hHeld => ?_)
               clear hK K
               refine norm_ (a' := ?_) ?_ ?_
               rotate_left
               ·show Act.put _ (some 57) _ = _
                simp only [Act.put, List.setIfInBounds_toArray, List.set_cons_zero, List.set_cons_succ, i64_w, i32_w]
                rfl
               refine pure_ (i := 4) (N := some 58) (v := ?_) (a' := ?_) #[true, true, true, true, true] rfl rfl (by kernel_rfl) (fun _ _ _ h => h) (Or.inl ⟨by rfl, ?_⟩) ?_ ?_
               rotate_left
               ·intro w'
                go_simp
                with_reducible rfl
               rotate_left
               ·simp only [Act.put, List.setIfInBounds_toArray, List.set_cons_zero, List.set_cons_succ, i64_w, i32_w]
                rfl
               refine done_ (by kernel_rfl) ?_
               try go_wp2
               replace HO553 := Aside0.mk (Kd.R_drew HO553.out)
               replace HO557 := Aside0.mk (Kd.R_drew HO557.out)
               replace HO561 := Aside0.mk (Kd.R_drew HO561.out)
               replace HO567 := Aside0.mk (Kd.R_drew HO567.out)
               replace HO572 := Aside0.mk (Kd.R_drew HO572.out)
               replace HO577 := Aside0.mk (Kd.R_drew HO577.out)
               replace HO584 := Aside0.mk (Kd.R_drew HO584.out)
               replace BK546 := Aside0.mk (blk_drew BK546.out)
               replace BK547 := Aside0.mk (blk_drew BK547.out)
               replace BK563 := Aside0.mk (blk_drew BK563.out)
               replace BK568 := Aside0.mk (blk_drew BK568.out)
               replace BK573 := Aside0.mk (blk_drew BK573.out)
               replace BK579 := Aside0.mk (blk_drew BK579.out)
               replace HB := Aside0.mk (below_drew1 HB.out)
               refine start_ (n := 5) (S := fun w' => w'.cell? ⟨gb573, 0, none⟩ = some (.int .i64 t569) ∧ w'.cell? ⟨gb573, 1, none⟩ = some (.slice Ao88 t570.length co88) ∧ w'.cell? ⟨gb547, 0, none⟩ = some (.int .i64 a1_0) ∧ w'.cell? ⟨gb547, 1, none⟩ = some (.slice A1_1 l1_1.length c1_1)) (ds := []) #[false, false, false, false, false] (by kernel_rfl) rfl rfl ⟨(blk_cell BK573.out 0).trans rfl, (blk_cell BK573.out 1).trans rfl, (blk_cell BK547.out 0).trans rfl, (blk_cell BK547.out 1).trans rfl⟩ (fun hHeld => ?_)
               generalize w104.drew = w105 at HO553 HO557 HO561 HO567 HO572 HO577 HO584 BK546 BK547 BK563 BK568 BK573 BK579 HB hHeld ⊢
               refine take_ (i := 0) (N := some 59) (v := ?_) (a' := ?_) #[true, false, false, false, false] rfl rfl (by kernel_rfl) (fun _ _ _ h => h) (Or.inl ⟨by rfl, ?_⟩) hHeld ?_ ?_
               rotate_left
               ·rintro w' ⟨s0, s1, s2, s3⟩
                go_simp
                with_reducible rfl
               rotate_left
               ·simp only [Act.put, List.setIfInBounds_toArray, List.set_cons_zero, List.set_cons_succ, i64_w, i32_w]
                rfl
               refine take_ (i := 1) (N := some 60) (v := ?_) (a' := ?_) #[true, true, false, false, false] rfl rfl (by kernel_rfl) (fun _ _ _ h => h) (Or.inl ⟨by rfl, ?_⟩) hHeld ?_ ?_
               rotate_left
               ·rintro w' ⟨s0, s1, s2, s3⟩
                go_simp
                with_reducible rfl
               rotate_left
               ·simp only [Act.put, List.setIfInBounds_toArray, List.set_cons_zero, List.set_cons_succ, i64_w, i32_w]
                rfl
               refine one_ (i := 2) (N := some 61) #[true, true, true, false, false] rfl rfl (by kernel_rfl) (by decide) (fun K hK => ?_)
               refine gs_ Try.func17 (by kernel_rfl) rfl #[.agg #[.int .i64 a1_0, .slice A1_1 l1_1.length c1_1]] (by rfl) rfl rfl ?_
               with_reducible refine (laws_toLadder.calls k a1_0 _ _ l1_1 t586 t587 _ ?side1 ?side2 A31.out).mono ?_
               (case side1 => exact Cl_ (Kd.C_below HR1_1.out HB.out))
               (case side2 => exact HC1_1.out)
               rintro e w106 ⟨v588, rfl, ho0, hb⟩
               refine ⟨_, rfl, ?_⟩
               have HO589 := Aside0.mk (Kd.R_lower (Kd.R_new' (Kd.R_new' (Kd.R_new' (Kd.R_new' (Kd.R_new' (Kd.R_new' (Kd.R_new' ho0 (Kd.R_lt (Rl_ HO553.out))) (Kd.R_lt (Rl_ HO557.out))) (Kd.R_lt (Rl_ HO561.out))) (Kd.R_lt (Rl_ HO567.out))) (Kd.R_lt (Rl_ HO572.out))) (Kd.R_lt (Rl_ HO577.out))) (Kd.R_lt (Rl_ HO584.out))) (below_size (Bl_ HB)))
               replace HO553 := Aside0.mk (Kd.R_elder' (Rl_ HO553.out) (Kd.R_base ho0) hb)
               replace HO557 := Aside0.mk (Kd.R_elder' (Rl_ HO557.out) (Kd.R_base ho0) hb)
               replace HO561 := Aside0.mk (Kd.R_elder' (Rl_ HO561.out) (Kd.R_base ho0) hb)
               replace HO567 := Aside0.mk (Kd.R_elder' (Rl_ HO567.out) (Kd.R_base ho0) hb)
               replace HO572 := Aside0.mk (Kd.R_elder' (Rl_ HO572.out) (Kd.R_base ho0) hb)
               replace HO577 := Aside0.mk (Kd.R_elder' (Rl_ HO577.out) (Kd.R_base ho0) hb)
               replace HO584 := Aside0.mk (Kd.R_elder' (Rl_ HO584.out) (Kd.R_base ho0) hb)
               replace BK546 := blkB_ BK546 hb
               replace BK547 := blkB_ BK547 hb
               replace BK563 := blkB_ BK563 hb
               replace BK568 := blkB_ BK568 hb
               replace BK573 := blkB_ BK573 hb
               replace BK579 := blkB_ BK579 hb
               replace HB := Aside0.mk (below_step (Bl_ HB) hb)
               (try clear hb); (try clear hb2); (try clear hk); (try clear hi); (try clear ho0)
               obtain ⟨Ao107, co107, eo107⟩ := Kd.R_slice HO589.out
               (first | subst eo107 | (injection eo107 with f1_ f2_ f3_; have f4_ := f1_.symm; have f5_ := f3_.symm; clear f1_ f2_ f3_; subst f4_; subst f5_))
               refine hK.out _ _ ⟨(blk_cell BK573.out 0).trans rfl, (blk_cell BK573.out 1).trans rfl, (blk_cell BK547.out 0).trans rfl, (blk_cell BK547.out 1).trans rfl⟩ (fun hHeld => ?_)
               clear hK K
               refine norm_ (a' := ?_) ?_ ?_
               rotate_left
               ·show Act.put _ (some 61) _ = _
                simp only [Act.put, List.setIfInBounds_toArray, List.set_cons_zero, List.set_cons_succ, i64_w, i32_w]
                rfl
               refine one_ (i := 3) (N := some 62) #[true, true, true, true, false] rfl rfl (by kernel_rfl) (by decide) (fun K hK => ?_)
               refine gs_ Try.func19 (by kernel_rfl) rfl #[.agg #[.int .i64 t569, .slice Ao88 t570.length co88], .agg #[.int .i64 t586, .slice Ao107 t587.length co107]] (by rfl) rfl rfl ?_
               with_reducible refine (laws_eqLadder.calls k t569 _ _ t570 t586 _ _ t587 true _ ?side1 ?side2 ?side3 ?side4 A32.out).mono ?_
               (case side1 => exact Cl_ (Kd.R_reads' HO572.out).2.2)
               (case side2 => exact (Kd.R_reads' HO572.out).2.1)
               (case side3 => exact Cl_ (Kd.R_reads' HO589.out).2.2)
               (case side4 => exact (Kd.R_reads' HO589.out).2.1)
               rintro e w108 ⟨rfl, hb⟩
               refine ⟨_, rfl, ?_⟩
               replace HO553 := Aside0.mk (Kd.R_below (Rl_ HO553.out) hb)
               replace HO557 := Aside0.mk (Kd.R_below (Rl_ HO557.out) hb)
               replace HO561 := Aside0.mk (Kd.R_below (Rl_ HO561.out) hb)
               replace HO567 := Aside0.mk (Kd.R_below (Rl_ HO567.out) hb)
               replace HO572 := Aside0.mk (Kd.R_below (Rl_ HO572.out) hb)
               replace HO577 := Aside0.mk (Kd.R_below (Rl_ HO577.out) hb)
               replace HO584 := Aside0.mk (Kd.R_below (Rl_ HO584.out) hb)
               replace HO589 := Aside0.mk (Kd.R_below (Rl_ HO589.out) hb)
               replace BK546 := blkB_ BK546 hb
               replace BK547 := blkB_ BK547 hb
               replace BK563 := blkB_ BK563 hb
               replace BK568 := blkB_ BK568 hb
               replace BK573 := blkB_ BK573 hb
               replace BK579 := blkB_ BK579 hb
               replace HB := Aside0.mk (below_step (Bl_ HB) hb)
               (try clear hb); (try clear hb2); (try clear hk); (try clear hi); (try clear ho0)
               refine hK.out _ _ ⟨(blk_cell BK573.out 0).trans rfl, (blk_cell BK573.out 1).trans rfl, (blk_cell BK547.out 0).trans rfl, (blk_cell BK547.out 1).trans rfl⟩ (fun hHeld => ?_)
               clear hK K
               refine norm_ (a' := ?_) ?_ ?_
               rotate_left
               ·show Act.put _ (some 62) _ = _
                simp only [Act.put, List.setIfInBounds_toArray, List.set_cons_zero, List.set_cons_succ, i64_w, i32_w]
                rfl
               refine pure_ (i := 4) (N := some 63) (v := ?_) (a' := ?_) #[true, true, true, true, true] rfl rfl (by kernel_rfl) (fun _ _ _ h => h) (Or.inl ⟨by rfl, ?_⟩) ?_ ?_
               rotate_left
               ·intro w'
                go_simp
                with_reducible rfl
               rotate_left
               ·simp only [Act.put, List.setIfInBounds_toArray, List.set_cons_zero, List.set_cons_succ, i64_w, i32_w]
                rfl
               refine done_ (by kernel_rfl) ?_
               have hcz109_0 : w108.cell? ⟨gb568, 0, none⟩ = some (.int .i64 t564) := (blk_cell BK568.out 0).trans rfl
               have hcz109_1 : w108.cell? ⟨gb568, 1, none⟩ = some (.slice Ao78 t565.length co78) := (blk_cell BK568.out 1).trans rfl
               have hfz109_0 := blk_frozen BK568.out 0
               have hfz109_1 := blk_frozen BK568.out 1
               try go_wp2_with (first | ((with_reducible refine gate_callee (f := 29) rfl ?_); refine gl_ (some 66) rfl rfl Try.func29 (by kernel_rfl) rfl #[.agg #[.int .i64 t564, .slice Ao78 t565.length co78], .int .i64 1] rfl ?_; (with_reducible refine (laws_markLadder.calls k t564 (fun k_ => some k_ = (.slice Ao78 t565.length co78 : Value).ownBlock) (.slice Ao78 t565.length co78) t565 1 t591 t592 w _ ?side1 ?side2 A34.out).mono ?_); (case side1 => repeat (first | (with_reducible first | exact HB.out | apply below_alloc | apply pw_below_drewN | apply below_drew1 | refine below_set ?_ GE546.out | refine below_set ?_ GE547.out | refine below_set ?_ GE563.out | refine below_set ?_ GE568.out | refine below_set ?_ GE573.out | refine below_set ?_ GE579.out) | exact HB.out)); (case side2 => exact Kd.R_tight rfl HO567.out); rintro e w110 ⟨rfl, hy0, hb, hkp⟩; refine ⟨_, rfl, ?_⟩; replace BK546 := Aside0.mk (blk_kept (bl_ BK546) hkp (fun hs_ => (fun e_ => (Kd.R_ne HO567.out BK546.out (by decide)) e_) hs_)); replace BK547 := Aside0.mk (blk_kept (bl_ BK547) hkp (fun hs_ => (fun e_ => (Kd.R_ne HO567.out BK547.out (by decide)) e_) hs_)); replace HO553 := Aside0.mk (Kd.R_mono (ok' := fun k_ => some k_ ≠ (v556 : Value).ownBlock ∧ some k_ ≠ (.slice Ao68 t559.length co68 : Value).ownBlock ∧ some k_ ≠ (.slice Ao78 t565.length co78 : Value).ownBlock ∧ some k_ ≠ (.slice Ao88 t570.length co88 : Value).ownBlock ∧ some k_ ≠ (.slice Ao98 t575.length co98 : Value).ownBlock ∧ some k_ ≠ (.slice Ao103 t582.length co103 : Value).ownBlock ∧ some k_ ≠ (.slice Ao107 t587.length co107 : Value).ownBlock) (Kd.R_keptB (HO553.out) hkp (fun k_ hk_ hs_ => absurd hs_ (by revert hk_; simp only [and_imp, true_implies]; intros; assumption))) (fun k_ hk_ => by revert hk_; simp only [and_imp, true_implies]; intros; (repeat' apply And.intro) <;> assumption)); replace HO557 := Aside0.mk (Kd.R_mono (ok' := fun k_ => some k_ ≠ (v552 : Value).ownBlock ∧ some k_ ≠ (.slice Ao68 t559.length co68 : Value).ownBlock ∧ some k_ ≠ (.slice Ao78 t565.length co78 : Value).ownBlock ∧ some k_ ≠ (.slice Ao88 t570.length co88 : Value).ownBlock ∧ some k_ ≠ (.slice Ao98 t575.length co98 : Value).ownBlock ∧ some k_ ≠ (.slice Ao103 t582.length co103 : Value).ownBlock ∧ some k_ ≠ (.slice Ao107 t587.length co107 : Value).ownBlock) (Kd.R_keptB (HO557.out) hkp (fun k_ hk_ hs_ => absurd hs_ (by revert hk_; simp only [and_imp, true_implies]; intros; assumption))) (fun k_ hk_ => by revert hk_; simp only [and_imp, true_implies]; intros; (repeat' apply And.intro) <;> assumption)); replace HO561 := Aside0.mk (Kd.R_mono (ok' := fun k_ => some k_ ≠ (v552 : Value).ownBlock ∧ some k_ ≠ (v556 : Value).ownBlock ∧ some k_ ≠ (.slice Ao78 t565.length co78 : Value).ownBlock ∧ some k_ ≠ (.slice Ao88 t570.length co88 : Value).ownBlock ∧ some k_ ≠ (.slice Ao98 t575.length co98 : Value).ownBlock ∧ some k_ ≠ (.slice Ao103 t582.length co103 : Value).ownBlock ∧ some k_ ≠ (.slice Ao107 t587.length co107 : Value).ownBlock) (Kd.R_keptB (HO561.out) hkp (fun k_ hk_ hs_ => absurd hs_ (by revert hk_; simp only [and_imp, true_implies]; intros; assumption))) (fun k_ hk_ => by revert hk_; simp only [and_imp, true_implies]; intros; (repeat' apply And.intro) <;> assumption)); replace BK563 := Aside0.mk (blk_kept (bl_ BK563) hkp (fun hs_ => (fun e_ => (Kd.R_ne HO567.out BK563.out (by decide)) e_) hs_)); replace BK568 := Aside0.mk (blk_kept (bl_ BK568) hkp (fun hs_ => (fun e_ => (Kd.R_ne HO567.out BK568.out (by decide)) e_) hs_)); replace HO572 := Aside0.mk (Kd.R_mono (ok' := fun k_ => some k_ ≠ (v552 : Value).ownBlock ∧ some k_ ≠ (v556 : Value).ownBlock ∧ some k_ ≠ (.slice Ao68 t559.length co68 : Value).ownBlock ∧ some k_ ≠ (.slice Ao78 t565.length co78 : Value).ownBlock ∧ some k_ ≠ (.slice Ao98 t575.length co98 : Value).ownBlock ∧ some k_ ≠ (.slice Ao103 t582.length co103 : Value).ownBlock ∧ some k_ ≠ (.slice Ao107 t587.length co107 : Value).ownBlock) (Kd.R_keptB (HO572.out) hkp (fun k_ hk_ hs_ => absurd hs_ (by revert hk_; simp only [and_imp, true_implies]; intros; assumption))) (fun k_ hk_ => by revert hk_; simp only [and_imp, true_implies]; intros; (repeat' apply And.intro) <;> assumption)); replace BK573 := Aside0.mk (blk_kept (bl_ BK573) hkp (fun hs_ => (fun e_ => (Kd.R_ne HO567.out BK573.out (by decide)) e_) hs_)); replace HO577 := Aside0.mk (Kd.R_mono (ok' := fun k_ => some k_ ≠ (v552 : Value).ownBlock ∧ some k_ ≠ (v556 : Value).ownBlock ∧ some k_ ≠ (.slice Ao68 t559.length co68 : Value).ownBlock ∧ some k_ ≠ (.slice Ao78 t565.length co78 : Value).ownBlock ∧ some k_ ≠ (.slice Ao88 t570.length co88 : Value).ownBlock ∧ some k_ ≠ (.slice Ao103 t582.length co103 : Value).ownBlock ∧ some k_ ≠ (.slice Ao107 t587.length co107 : Value).ownBlock) (Kd.R_keptB (HO577.out) hkp (fun k_ hk_ hs_ => absurd hs_ (by revert hk_; simp only [and_imp, true_implies]; intros; assumption))) (fun k_ hk_ => by revert hk_; simp only [and_imp, true_implies]; intros; (repeat' apply And.intro) <;> assumption)); replace BK579 := Aside0.mk (blk_kept (bl_ BK579) hkp (fun hs_ => (fun e_ => (Kd.R_ne HO567.out BK579.out (by decide)) e_) hs_)); replace HO567 := Aside0.mk (Kd.R_reok rfl hy0 (fun k_ e_ => HO567.out.1 k_ e_)); replace HO584 := Aside0.mk (Kd.R_mono (ok' := fun k_ => some k_ ≠ (v552 : Value).ownBlock ∧ some k_ ≠ (v556 : Value).ownBlock ∧ some k_ ≠ (.slice Ao68 t559.length co68 : Value).ownBlock ∧ some k_ ≠ (.slice Ao78 t565.length co78 : Value).ownBlock ∧ some k_ ≠ (.slice Ao88 t570.length co88 : Value).ownBlock ∧ some k_ ≠ (.slice Ao98 t575.length co98 : Value).ownBlock ∧ some k_ ≠ (.slice Ao107 t587.length co107 : Value).ownBlock) (Kd.R_keptB (HO584.out) hkp (fun k_ hk_ hs_ => absurd hs_ (by revert hk_; simp only [and_imp, true_implies]; intros; assumption))) (fun k_ hk_ => by revert hk_; simp only [and_imp, true_implies]; intros; (repeat' apply And.intro) <;> assumption)); replace HO589 := Aside0.mk (Kd.R_mono (ok' := fun k_ => some k_ ≠ (v552 : Value).ownBlock ∧ some k_ ≠ (v556 : Value).ownBlock ∧ some k_ ≠ (.slice Ao68 t559.length co68 : Value).ownBlock ∧ some k_ ≠ (.slice Ao78 t565.length co78 : Value).ownBlock ∧ some k_ ≠ (.slice Ao88 t570.length co88 : Value).ownBlock ∧ some k_ ≠ (.slice Ao98 t575.length co98 : Value).ownBlock ∧ some k_ ≠ (.slice Ao103 t582.length co103 : Value).ownBlock) (Kd.R_keptB (HO589.out) hkp (fun k_ hk_ hs_ => absurd hs_ (by revert hk_; simp only [and_imp, true_implies]; intros; assumption))) (fun k_ hk_ => by revert hk_; simp only [and_imp, true_implies]; intros; (repeat' apply And.intro) <;> assumption)); replace HB := Aside0.mk (hb); (try clear hb); (try clear hkp); (try clear hy0); have hcz111_0 : w110.cell? ⟨gb573, 0, none⟩ = some (.int .i64 t569) := (blk_cell BK573.out 0).trans rfl; have hcz111_1 : w110.cell? ⟨gb573, 1, none⟩ = some (.slice Ao88 t570.length co88) := (blk_cell BK573.out 1).trans rfl; have hfz111_0 := blk_frozen BK573.out 0; have hfz111_1 := blk_frozen BK573.out 1) | ((with_reducible refine gate_callee (f := 29) rfl ?_); refine gl_ (some 69) rfl rfl Try.func29 (by kernel_rfl) rfl #[.agg #[.int .i64 t569, .slice Ao88 t570.length co88], .int .i64 t591] rfl ?_; (with_reducible refine (laws_markLadder.calls k t569 (fun k_ => some k_ = (.slice Ao88 t570.length co88 : Value).ownBlock) (.slice Ao88 t570.length co88) t570 t591 t593 t594 w _ ?side1 ?side2 A35.out).mono ?_); (case side1 => repeat (first | (with_reducible first | exact HB.out | apply below_alloc | apply pw_below_drewN | apply below_drew1 | refine below_set ?_ GE546.out | refine below_set ?_ GE547.out | refine below_set ?_ GE563.out | refine below_set ?_ GE568.out | refine below_set ?_ GE573.out | refine below_set ?_ GE579.out) | exact HB.out)); (case side2 => exact Kd.R_tight rfl HO572.out); rintro e w112 ⟨rfl, hy0, hb, hkp⟩; refine ⟨_, rfl, ?_⟩; replace BK546 := Aside0.mk (blk_kept (bl_ BK546) hkp (fun hs_ => (fun e_ => (Kd.R_ne HO572.out BK546.out (by decide)) e_) hs_)); replace BK547 := Aside0.mk (blk_kept (bl_ BK547) hkp (fun hs_ => (fun e_ => (Kd.R_ne HO572.out BK547.out (by decide)) e_) hs_)); replace HO553 := Aside0.mk (Kd.R_mono (ok' := fun k_ => some k_ ≠ (v556 : Value).ownBlock ∧ some k_ ≠ (.slice Ao68 t559.length co68 : Value).ownBlock ∧ some k_ ≠ (.slice Ao78 t565.length co78 : Value).ownBlock ∧ some k_ ≠ (.slice Ao88 t570.length co88 : Value).ownBlock ∧ some k_ ≠ (.slice Ao98 t575.length co98 : Value).ownBlock ∧ some k_ ≠ (.slice Ao103 t582.length co103 : Value).ownBlock ∧ some k_ ≠ (.slice Ao107 t587.length co107 : Value).ownBlock) (Kd.R_keptB (HO553.out) hkp (fun k_ hk_ hs_ => absurd hs_ (by revert hk_; simp only [and_imp, true_implies]; intros; assumption))) (fun k_ hk_ => by revert hk_; simp only [and_imp, true_implies]; intros; (repeat' apply And.intro) <;> assumption)); replace HO557 := Aside0.mk (Kd.R_mono (ok' := fun k_ => some k_ ≠ (v552 : Value).ownBlock ∧ some k_ ≠ (.slice Ao68 t559.length co68 : Value).ownBlock ∧ some k_ ≠ (.slice Ao78 t565.length co78 : Value).ownBlock ∧ some k_ ≠ (.slice Ao88 t570.length co88 : Value).ownBlock ∧ some k_ ≠ (.slice Ao98 t575.length co98 : Value).ownBlock ∧ some k_ ≠ (.slice Ao103 t582.length co103 : Value).ownBlock ∧ some k_ ≠ (.slice Ao107 t587.length co107 : Value).ownBlock) (Kd.R_keptB (HO557.out) hkp (fun k_ hk_ hs_ => absurd hs_ (by revert hk_; simp only [and_imp, true_implies]; intros; assumption))) (fun k_ hk_ => by revert hk_; simp only [and_imp, true_implies]; intros; (repeat' apply And.intro) <;> assumption)); replace HO561 := Aside0.mk (Kd.R_mono (ok' := fun k_ => some k_ ≠ (v552 : Value).ownBlock ∧ some k_ ≠ (v556 : Value).ownBlock ∧ some k_ ≠ (.slice Ao78 t565.length co78 : Value).ownBlock ∧ some k_ ≠ (.slice Ao88 t570.length co88 : Value).ownBlock ∧ some k_ ≠ (.slice Ao98 t575.length co98 : Value).ownBlock ∧ some k_ ≠ (.slice Ao103 t582.length co103 : Value).ownBlock ∧ some k_ ≠ (.slice Ao107 t587.length co107 : Value).ownBlock) (Kd.R_keptB (HO561.out) hkp (fun k_ hk_ hs_ => absurd hs_ (by revert hk_; simp only [and_imp, true_implies]; intros; assumption))) (fun k_ hk_ => by revert hk_; simp only [and_imp, true_implies]; intros; (repeat' apply And.intro) <;> assumption)); replace BK563 := Aside0.mk (blk_kept (bl_ BK563) hkp (fun hs_ => (fun e_ => (Kd.R_ne HO572.out BK563.out (by decide)) e_) hs_)); replace HO567 := Aside0.mk (Kd.R_mono (ok' := fun k_ => some k_ ≠ (v552 : Value).ownBlock ∧ some k_ ≠ (v556 : Value).ownBlock ∧ some k_ ≠ (.slice Ao68 t559.length co68 : Value).ownBlock ∧ some k_ ≠ (.slice Ao88 t570.length co88 : Value).ownBlock ∧ some k_ ≠ (.slice Ao98 t575.length co98 : Value).ownBlock ∧ some k_ ≠ (.slice Ao103 t582.length co103 : Value).ownBlock ∧ some k_ ≠ (.slice Ao107 t587.length co107 : Value).ownBlock) (Kd.R_keptB (HO567.out) hkp (fun k_ hk_ hs_ => absurd hs_ (by revert hk_; simp only [and_imp, true_implies]; intros; assumption))) (fun k_ hk_ => by revert hk_; simp only [and_imp, true_implies]; intros; (repeat' apply And.intro) <;> assumption)); replace BK568 := Aside0.mk (blk_kept (bl_ BK568) hkp (fun hs_ => (fun e_ => (Kd.R_ne HO572.out BK568.out (by decide)) e_) hs_)); replace BK573 := Aside0.mk (blk_kept (bl_ BK573) hkp (fun hs_ => (fun e_ => (Kd.R_ne HO572.out BK573.out (by decide)) e_) hs_)); replace HO577 := Aside0.mk (Kd.R_mono (ok' := fun k_ => some k_ ≠ (v552 : Value).ownBlock ∧ some k_ ≠ (v556 : Value).ownBlock ∧ some k_ ≠ (.slice Ao68 t559.length co68 : Value).ownBlock ∧ some k_ ≠ (.slice Ao78 t565.length co78 : Value).ownBlock ∧ some k_ ≠ (.slice Ao88 t570.length co88 : Value).ownBlock ∧ some k_ ≠ (.slice Ao103 t582.length co103 : Value).ownBlock ∧ some k_ ≠ (.slice Ao107 t587.length co107 : Value).ownBlock) (Kd.R_keptB (HO577.out) hkp (fun k_ hk_ hs_ => absurd hs_ (by revert hk_; simp only [and_imp, true_implies]; intros; assumption))) (fun k_ hk_ => by revert hk_; simp only [and_imp, true_implies]; intros; (repeat' apply And.intro) <;> assumption)); replace BK579 := Aside0.mk (blk_kept (bl_ BK579) hkp (fun hs_ => (fun e_ => (Kd.R_ne HO572.out BK579.out (by decide)) e_) hs_)); replace HO572 := Aside0.mk (Kd.R_reok rfl hy0 (fun k_ e_ => HO572.out.1 k_ e_)); replace HO584 := Aside0.mk (Kd.R_mono (ok' := fun k_ => some k_ ≠ (v552 : Value).ownBlock ∧ some k_ ≠ (v556 : Value).ownBlock ∧ some k_ ≠ (.slice Ao68 t559.length co68 : Value).ownBlock ∧ some k_ ≠ (.slice Ao78 t565.length co78 : Value).ownBlock ∧ some k_ ≠ (.slice Ao88 t570.length co88 : Value).ownBlock ∧ some k_ ≠ (.slice Ao98 t575.length co98 : Value).ownBlock ∧ some k_ ≠ (.slice Ao107 t587.length co107 : Value).ownBlock) (Kd.R_keptB (HO584.out) hkp (fun k_ hk_ hs_ => absurd hs_ (by revert hk_; simp only [and_imp, true_implies]; intros; assumption))) (fun k_ hk_ => by revert hk_; simp only [and_imp, true_implies]; intros; (repeat' apply And.intro) <;> assumption)); replace HO589 := Aside0.mk (Kd.R_mono (ok' := fun k_ => some k_ ≠ (v552 : Value).ownBlock ∧ some k_ ≠ (v556 : Value).ownBlock ∧ some k_ ≠ (.slice Ao68 t559.length co68 : Value).ownBlock ∧ some k_ ≠ (.slice Ao78 t565.length co78 : Value).ownBlock ∧ some k_ ≠ (.slice Ao88 t570.length co88 : Value).ownBlock ∧ some k_ ≠ (.slice Ao98 t575.length co98 : Value).ownBlock ∧ some k_ ≠ (.slice Ao103 t582.length co103 : Value).ownBlock) (Kd.R_keptB (HO589.out) hkp (fun k_ hk_ hs_ => absurd hs_ (by revert hk_; simp only [and_imp, true_implies]; intros; assumption))) (fun k_ hk_ => by revert hk_; simp only [and_imp, true_implies]; intros; (repeat' apply And.intro) <;> assumption)); replace HB := Aside0.mk (hb); (try clear hb); (try clear hkp); (try clear hy0); have hcz113_0 : w112.cell? ⟨gb579, 0, none⟩ = some (.int .i64 t574) := (blk_cell BK579.out 0).trans rfl; have hcz113_1 : w112.cell? ⟨gb579, 1, none⟩ = some (.slice Ao98 t575.length co98) := (blk_cell BK579.out 1).trans rfl; have hfz113_0 := blk_frozen BK579.out 0; have hfz113_1 := blk_frozen BK579.out 1; have hcz114_0 : w112.cell? ⟨gb563, 0, none⟩ = some (.int .i64 t558) := (blk_cell BK563.out 0).trans rfl; have hcz114_1 : w112.cell? ⟨gb563, 1, none⟩ = some (.slice Ao68 t559.length co68) := (blk_cell BK563.out 1).trans rfl; have hfz114_0 := blk_frozen BK563.out 0; have hfz114_1 := blk_frozen BK563.out 1) | (go_at_call 19; (with_reducible refine (laws_eqLadder.calls k t574 _ _ t575 t558 _ _ t559 true _ ?side1 ?side2 ?side3 ?side4 A37.out).mono ?_); (case side1 => exact Cl_ (Kd.R_reads' HO577.out).2.2); (case side2 => exact (Kd.R_reads' HO577.out).2.1); (case side3 => exact Cl_ (Kd.R_reads' HO561.out).2.2); (case side4 => exact (Kd.R_reads' HO561.out).2.1); rintro e w115 ⟨rfl, hb⟩; replace HO553 := Aside0.mk (Kd.R_below (Rl_ HO553.out) hb); replace HO557 := Aside0.mk (Kd.R_below (Rl_ HO557.out) hb); replace HO561 := Aside0.mk (Kd.R_below (Rl_ HO561.out) hb); replace HO567 := Aside0.mk (Kd.R_below (Rl_ HO567.out) hb); replace HO572 := Aside0.mk (Kd.R_below (Rl_ HO572.out) hb); replace HO577 := Aside0.mk (Kd.R_below (Rl_ HO577.out) hb); replace HO584 := Aside0.mk (Kd.R_below (Rl_ HO584.out) hb); replace HO589 := Aside0.mk (Kd.R_below (Rl_ HO589.out) hb); replace BK546 := blkB_ BK546 hb; replace BK547 := blkB_ BK547 hb; replace BK563 := blkB_ BK563 hb; replace BK568 := blkB_ BK568 hb; replace BK573 := blkB_ BK573 hb; replace BK579 := blkB_ BK579 hb; replace HB := Aside0.mk (below_step (Bl_ HB) hb); (try clear hb); (try clear hb2); (try clear hk); (try clear hi); have hcz116_0 : w115.cell? ⟨gb579, 0, none⟩ = some (.int .i64 t574) := (blk_cell BK579.out 0).trans rfl; have hcz116_1 : w115.cell? ⟨gb579, 1, none⟩ = some (.slice Ao98 t575.length co98) := (blk_cell BK579.out 1).trans rfl; have hfz116_0 := blk_frozen BK579.out 0; have hfz116_1 := blk_frozen BK579.out 1) | ((with_reducible refine gate_callee (f := 29) rfl ?_); refine gl_ (some 85) rfl rfl Try.func29 (by kernel_rfl) rfl #[.agg #[.int .i64 t574, .slice Ao98 t575.length co98], .int .i64 1] rfl ?_; (with_reducible refine (laws_markLadder.calls k t574 (fun k_ => some k_ = (.slice Ao98 t575.length co98 : Value).ownBlock) (.slice Ao98 t575.length co98) t575 1 t596 t597 w _ ?side1 ?side2 A39.out).mono ?_); (case side1 => repeat (first | (with_reducible first | exact HB.out | apply below_alloc | apply pw_below_drewN | apply below_drew1 | refine below_set ?_ GE546.out | refine below_set ?_ GE547.out | refine below_set ?_ GE563.out | refine below_set ?_ GE568.out | refine below_set ?_ GE573.out | refine below_set ?_ GE579.out) | exact HB.out)); (case side2 => exact Kd.R_tight rfl HO577.out); rintro e w117 ⟨rfl, hy0, hb, hkp⟩; refine ⟨_, rfl, ?_⟩; replace BK546 := Aside0.mk (blk_kept (bl_ BK546) hkp (fun hs_ => (fun e_ => (Kd.R_ne HO577.out BK546.out (by decide)) e_) hs_)); replace BK547 := Aside0.mk (blk_kept (bl_ BK547) hkp (fun hs_ => (fun e_ => (Kd.R_ne HO577.out BK547.out (by decide)) e_) hs_)); replace HO553 := Aside0.mk (Kd.R_mono (ok' := fun k_ => some k_ ≠ (v556 : Value).ownBlock ∧ some k_ ≠ (.slice Ao68 t559.length co68 : Value).ownBlock ∧ some k_ ≠ (.slice Ao78 t565.length co78 : Value).ownBlock ∧ some k_ ≠ (.slice Ao88 t570.length co88 : Value).ownBlock ∧ some k_ ≠ (.slice Ao98 t575.length co98 : Value).ownBlock ∧ some k_ ≠ (.slice Ao103 t582.length co103 : Value).ownBlock ∧ some k_ ≠ (.slice Ao107 t587.length co107 : Value).ownBlock) (Kd.R_keptB (HO553.out) hkp (fun k_ hk_ hs_ => absurd hs_ (by revert hk_; simp only [and_imp, true_implies]; intros; assumption))) (fun k_ hk_ => by revert hk_; simp only [and_imp, true_implies]; intros; (repeat' apply And.intro) <;> assumption)); replace HO557 := Aside0.mk (Kd.R_mono (ok' := fun k_ => some k_ ≠ (v552 : Value).ownBlock ∧ some k_ ≠ (.slice Ao68 t559.length co68 : Value).ownBlock ∧ some k_ ≠ (.slice Ao78 t565.length co78 : Value).ownBlock ∧ some k_ ≠ (.slice Ao88 t570.length co88 : Value).ownBlock ∧ some k_ ≠ (.slice Ao98 t575.length co98 : Value).ownBlock ∧ some k_ ≠ (.slice Ao103 t582.length co103 : Value).ownBlock ∧ some k_ ≠ (.slice Ao107 t587.length co107 : Value).ownBlock) (Kd.R_keptB (HO557.out) hkp (fun k_ hk_ hs_ => absurd hs_ (by revert hk_; simp only [and_imp, true_implies]; intros; assumption))) (fun k_ hk_ => by revert hk_; simp only [and_imp, true_implies]; intros; (repeat' apply And.intro) <;> assumption)); replace HO561 := Aside0.mk (Kd.R_mono (ok' := fun k_ => some k_ ≠ (v552 : Value).ownBlock ∧ some k_ ≠ (v556 : Value).ownBlock ∧ some k_ ≠ (.slice Ao78 t565.length co78 : Value).ownBlock ∧ some k_ ≠ (.slice Ao88 t570.length co88 : Value).ownBlock ∧ some k_ ≠ (.slice Ao98 t575.length co98 : Value).ownBlock ∧ some k_ ≠ (.slice Ao103 t582.length co103 : Value).ownBlock ∧ some k_ ≠ (.slice Ao107 t587.length co107 : Value).ownBlock) (Kd.R_keptB (HO561.out) hkp (fun k_ hk_ hs_ => absurd hs_ (by revert hk_; simp only [and_imp, true_implies]; intros; assumption))) (fun k_ hk_ => by revert hk_; simp only [and_imp, true_implies]; intros; (repeat' apply And.intro) <;> assumption)); replace BK563 := Aside0.mk (blk_kept (bl_ BK563) hkp (fun hs_ => (fun e_ => (Kd.R_ne HO577.out BK563.out (by decide)) e_) hs_)); replace HO567 := Aside0.mk (Kd.R_mono (ok' := fun k_ => some k_ ≠ (v552 : Value).ownBlock ∧ some k_ ≠ (v556 : Value).ownBlock ∧ some k_ ≠ (.slice Ao68 t559.length co68 : Value).ownBlock ∧ some k_ ≠ (.slice Ao88 t570.length co88 : Value).ownBlock ∧ some k_ ≠ (.slice Ao98 t575.length co98 : Value).ownBlock ∧ some k_ ≠ (.slice Ao103 t582.length co103 : Value).ownBlock ∧ some k_ ≠ (.slice Ao107 t587.length co107 : Value).ownBlock) (Kd.R_keptB (HO567.out) hkp (fun k_ hk_ hs_ => absurd hs_ (by revert hk_; simp only [and_imp, true_implies]; intros; assumption))) (fun k_ hk_ => by revert hk_; simp only [and_imp, true_implies]; intros; (repeat' apply And.intro) <;> assumption)); replace BK568 := Aside0.mk (blk_kept (bl_ BK568) hkp (fun hs_ => (fun e_ => (Kd.R_ne HO577.out BK568.out (by decide)) e_) hs_)); replace HO572 := Aside0.mk (Kd.R_mono (ok' := fun k_ => some k_ ≠ (v552 : Value).ownBlock ∧ some k_ ≠ (v556 : Value).ownBlock ∧ some k_ ≠ (.slice Ao68 t559.length co68 : Value).ownBlock ∧ some k_ ≠ (.slice Ao78 t565.length co78 : Value).ownBlock ∧ some k_ ≠ (.slice Ao98 t575.length co98 : Value).ownBlock ∧ some k_ ≠ (.slice Ao103 t582.length co103 : Value).ownBlock ∧ some k_ ≠ (.slice Ao107 t587.length co107 : Value).ownBlock) (Kd.R_keptB (HO572.out) hkp (fun k_ hk_ hs_ => absurd hs_ (by revert hk_; simp only [and_imp, true_implies]; intros; assumption))) (fun k_ hk_ => by revert hk_; simp only [and_imp, true_implies]; intros; (repeat' apply And.intro) <;> assumption)); replace BK573 := Aside0.mk (blk_kept (bl_ BK573) hkp (fun hs_ => (fun e_ => (Kd.R_ne HO577.out BK573.out (by decide)) e_) hs_)); replace BK579 := Aside0.mk (blk_kept (bl_ BK579) hkp (fun hs_ => (fun e_ => (Kd.R_ne HO577.out BK579.out (by decide)) e_) hs_)); replace HO577 := Aside0.mk (Kd.R_reok rfl hy0 (fun k_ e_ => HO577.out.1 k_ e_)); replace HO584 := Aside0.mk (Kd.R_mono (ok' := fun k_ => some k_ ≠ (v552 : Value).ownBlock ∧ some k_ ≠ (v556 : Value).ownBlock ∧ some k_ ≠ (.slice Ao68 t559.length co68 : Value).ownBlock ∧ some k_ ≠ (.slice Ao78 t565.length co78 : Value).ownBlock ∧ some k_ ≠ (.slice Ao88 t570.length co88 : Value).ownBlock ∧ some k_ ≠ (.slice Ao98 t575.length co98 : Value).ownBlock ∧ some k_ ≠ (.slice Ao107 t587.length co107 : Value).ownBlock) (Kd.R_keptB (HO584.out) hkp (fun k_ hk_ hs_ => absurd hs_ (by revert hk_; simp only [and_imp, true_implies]; intros; assumption))) (fun k_ hk_ => by revert hk_; simp only [and_imp, true_implies]; intros; (repeat' apply And.intro) <;> assumption)); replace HO589 := Aside0.mk (Kd.R_mono (ok' := fun k_ => some k_ ≠ (v552 : Value).ownBlock ∧ some k_ ≠ (v556 : Value).ownBlock ∧ some k_ ≠ (.slice Ao68 t559.length co68 : Value).ownBlock ∧ some k_ ≠ (.slice Ao78 t565.length co78 : Value).ownBlock ∧ some k_ ≠ (.slice Ao88 t570.length co88 : Value).ownBlock ∧ some k_ ≠ (.slice Ao98 t575.length co98 : Value).ownBlock ∧ some k_ ≠ (.slice Ao103 t582.length co103 : Value).ownBlock) (Kd.R_keptB (HO589.out) hkp (fun k_ hk_ hs_ => absurd hs_ (by revert hk_; simp only [and_imp, true_implies]; intros; assumption))) (fun k_ hk_ => by revert hk_; simp only [and_imp, true_implies]; intros; (repeat' apply And.intro) <;> assumption)); replace HB := Aside0.mk (hb); (try clear hb); (try clear hkp); (try clear hy0); have hcz118_0 : w117.cell? ⟨gb579, 0, none⟩ = some (.int .i64 t574) := (blk_cell BK579.out 0).trans rfl; have hcz118_1 : w117.cell? ⟨gb579, 1, none⟩ = some (.slice Ao98 t575.length co98) := (blk_cell BK579.out 1).trans rfl; have hfz118_0 := blk_frozen BK579.out 0; have hfz118_1 := blk_frozen BK579.out 1) | ((with_reducible refine gate_callee (f := 30) rfl ?_); refine goesL_ (some 88) rfl rfl Try.func30 (by kernel_rfl) rfl #[.agg #[.int .i64 t574, .slice Ao98 t597.length co98], .int .i64 1] rfl (by (try simp only [List.map_toArray, List.map_cons, List.map_nil]); first | done | (rw [show t597.length = t575.length from (Kd.R_reads' HO577.out).1.symm] <;> rfl) | rfl | (simp only [List.length_drop, List.length_take]; rfl)) ?_; (with_reducible refine (laws_heldLadder.calls k t574 _ _ t597 1 t598 _ ?side1 ?side2 A40.out).mono ?_); (case side1 => exact Cl_ (Kd.R_reads' HO577.out).2.2); (case side2 => rw [show t597.length = t575.length from (Kd.R_reads' HO577.out).1.symm]; exact (Kd.R_reads' HO577.out).2.1); rintro e w119 ⟨rfl, hb⟩; refine ⟨_, rfl, ?_⟩; replace HO553 := Aside0.mk (Kd.R_below (Rl_ HO553.out) hb); replace HO557 := Aside0.mk (Kd.R_below (Rl_ HO557.out) hb); replace HO561 := Aside0.mk (Kd.R_below (Rl_ HO561.out) hb); replace HO567 := Aside0.mk (Kd.R_below (Rl_ HO567.out) hb); replace HO572 := Aside0.mk (Kd.R_below (Rl_ HO572.out) hb); replace HO577 := Aside0.mk (Kd.R_below (Rl_ HO577.out) hb); replace HO584 := Aside0.mk (Kd.R_below (Rl_ HO584.out) hb); replace HO589 := Aside0.mk (Kd.R_below (Rl_ HO589.out) hb); replace BK546 := blkB_ BK546 hb; replace BK547 := blkB_ BK547 hb; replace BK563 := blkB_ BK563 hb; replace BK568 := blkB_ BK568 hb; replace BK573 := blkB_ BK573 hb; replace BK579 := blkB_ BK579 hb; replace HB := Aside0.mk (below_step (Bl_ HB) hb); (try clear hb); (try clear hb2); (try clear hk); (try clear hi)))
               replace HO553 := Aside0.mk (Kd.R_drew HO553.out)
               replace HO557 := Aside0.mk (Kd.R_drew HO557.out)
               replace HO561 := Aside0.mk (Kd.R_drew HO561.out)
               replace HO567 := Aside0.mk (Kd.R_drew HO567.out)
               replace HO572 := Aside0.mk (Kd.R_drew HO572.out)
               replace HO577 := Aside0.mk (Kd.R_drew HO577.out)
               replace HO584 := Aside0.mk (Kd.R_drew HO584.out)
               replace HO589 := Aside0.mk (Kd.R_drew HO589.out)
               replace BK546 := Aside0.mk (blk_drew BK546.out)
               replace BK547 := Aside0.mk (blk_drew BK547.out)
               replace BK563 := Aside0.mk (blk_drew BK563.out)
               replace BK568 := Aside0.mk (blk_drew BK568.out)
               replace BK573 := Aside0.mk (blk_drew BK573.out)
               replace BK579 := Aside0.mk (blk_drew BK579.out)
               replace HB := Aside0.mk (below_drew1 HB.out)
               refine start_ (n := 11) (S := fun w' => w'.cell? ⟨gb546, 0, none⟩ = some (.int .i64 a0_0) ∧ w'.cell? ⟨gb546, 1, none⟩ = some (.slice A0_1 l0_1.length c0_1) ∧ w'.cell? ⟨gb547, 0, none⟩ = some (.int .i64 a1_0) ∧ w'.cell? ⟨gb547, 1, none⟩ = some (.slice A1_1 l1_1.length c1_1)) (ds := []) #[false, false, false, false, false, false, false, false, false, false, false] (by kernel_rfl) rfl rfl ⟨(blk_cell BK546.out 0).trans rfl, (blk_cell BK546.out 1).trans rfl, (blk_cell BK547.out 0).trans rfl, (blk_cell BK547.out 1).trans rfl⟩ (fun hHeld => ?_); refine with_tabW laws_FnExactBesideLadders.tab31 laws_FnExactBesideLadders.bits31 (fun HT_ HW_ => ?_)
               generalize w119.drew = w120 at HO553 HO557 HO561 HO567 HO572 HO577 HO584 HO589 BK546 BK547 BK563 BK568 BK573 BK579 HB hHeld ⊢
               refine take_ (i := 0) (N := some 95) (v := ?_) (a' := ?_) #[true, false, false, false, false, false, false, false, false, false, false] rfl rfl (take_ofW HT_.out HW_.out (by kernel_rfl)) (fun _ _ _ h => h) (Or.inl ⟨by rfl, ?_⟩) hHeld ?_ ?_
               rotate_left
               ·rintro w' ⟨s0, s1, s2, s3⟩
                go_simp
                with_reducible rfl
               rotate_left
               ·simp only [Act.put, List.setIfInBounds_toArray, List.set_cons_zero, List.set_cons_succ, i64_w, i32_w]
                rfl
               refine take_ (i := 2) (N := some 97) (v := ?_) (a' := ?_) #[true, false, true, false, false, false, false, false, false, false, false] rfl rfl (take_ofW HT_.out HW_.out (by kernel_rfl)) (fun _ _ _ h => h) (Or.inl ⟨by rfl, ?_⟩) hHeld ?_ ?_
               rotate_left
               ·rintro w' ⟨s0, s1, s2, s3⟩
                go_simp
                with_reducible rfl
               rotate_left
               ·simp only [Act.put, List.setIfInBounds_toArray, List.set_cons_zero, List.set_cons_succ, i64_w, i32_w]
                rfl
               refine join_ (σ := Value × Value × Value × Nat) 2 #[true, true, true, true, true, true, true, true, true, false, false] (fun s_ => [(96, .agg #[.int .i64 t599, s_.1]), (98, .agg #[.int .i64 t603, s_.2.1]), (99, .tuple #[.agg #[.int .i64 t607, s_.2.2.1], .bool t611]), (15, .pointer (some ⟨s_.2.2.2, 0, none⟩)), (94, .tuple #[.agg #[.int .i64 t607, s_.2.2.1], .bool t611]), (100, .agg #[.int .i64 t607, s_.2.2.1]), (101, .bool t611)]) (fun s_ w' => (w'.cell? ⟨gb546, 0, none⟩ = some (.int .i64 a0_0) ∧ w'.cell? ⟨gb546, 1, none⟩ = some (.slice A0_1 l0_1.length c0_1) ∧ w'.cell? ⟨gb547, 0, none⟩ = some (.int .i64 a1_0) ∧ w'.cell? ⟨gb547, 1, none⟩ = some (.slice A1_1 l1_1.length c1_1)) ∧ (Kd.R (Kd.int .i64) 3 w' w.heap.size (fun k_ => some k_ ≠ (v556 : Value).ownBlock ∧ some k_ ≠ (.slice Ao68 t559.length co68 : Value).ownBlock ∧ some k_ ≠ (.slice Ao78 t565.length co78 : Value).ownBlock ∧ some k_ ≠ (.slice Ao88 t570.length co88 : Value).ownBlock ∧ some k_ ≠ (.slice Ao98 t575.length co98 : Value).ownBlock ∧ some k_ ≠ (.slice Ao103 t582.length co103 : Value).ownBlock ∧ some k_ ≠ (.slice Ao107 t587.length co107 : Value).ownBlock ∧ some k_ ≠ (s_.1 : Value).ownBlock ∧ some k_ ≠ (s_.2.1 : Value).ownBlock ∧ some k_ ≠ (s_.2.2.1 : Value).ownBlock) v552 t551) ∧ (Kd.R (Kd.int .i64) 3 w' w.heap.size (fun k_ => some k_ ≠ (v552 : Value).ownBlock ∧ some k_ ≠ (.slice Ao68 t559.length co68 : Value).ownBlock ∧ some k_ ≠ (.slice Ao78 t565.length co78 : Value).ownBlock ∧ some k_ ≠ (.slice Ao88 t570.length co88 : Value).ownBlock ∧ some k_ ≠ (.slice Ao98 t575.length co98 : Value).ownBlock ∧ some k_ ≠ (.slice Ao103 t582.length co103 : Value).ownBlock ∧ some k_ ≠ (.slice Ao107 t587.length co107 : Value).ownBlock ∧ some k_ ≠ (s_.1 : Value).ownBlock ∧ some k_ ≠ (s_.2.1 : Value).ownBlock ∧ some k_ ≠ (s_.2.2.1 : Value).ownBlock) v556 t555) ∧ (Kd.R (Kd.int .i64) 3 w' w.heap.size (fun k_ => some k_ ≠ (v552 : Value).ownBlock ∧ some k_ ≠ (v556 : Value).ownBlock ∧ some k_ ≠ (.slice Ao78 t565.length co78 : Value).ownBlock ∧ some k_ ≠ (.slice Ao88 t570.length co88 : Value).ownBlock ∧ some k_ ≠ (.slice Ao98 t575.length co98 : Value).ownBlock ∧ some k_ ≠ (.slice Ao103 t582.length co103 : Value).ownBlock ∧ some k_ ≠ (.slice Ao107 t587.length co107 : Value).ownBlock ∧ some k_ ≠ (s_.1 : Value).ownBlock ∧ some k_ ≠ (s_.2.1 : Value).ownBlock ∧ some k_ ≠ (s_.2.2.1 : Value).ownBlock) (.slice Ao68 t559.length co68) t559) ∧ (Kd.R (Kd.int .i64) 3 w' w.heap.size (fun k_ => some k_ ≠ (v552 : Value).ownBlock ∧ some k_ ≠ (v556 : Value).ownBlock ∧ some k_ ≠ (.slice Ao68 t559.length co68 : Value).ownBlock ∧ some k_ ≠ (.slice Ao88 t570.length co88 : Value).ownBlock ∧ some k_ ≠ (.slice Ao98 t575.length co98 : Value).ownBlock ∧ some k_ ≠ (.slice Ao103 t582.length co103 : Value).ownBlock ∧ some k_ ≠ (.slice Ao107 t587.length co107 : Value).ownBlock ∧ some k_ ≠ (s_.1 : Value).ownBlock ∧ some k_ ≠ (s_.2.1 : Value).ownBlock ∧ some k_ ≠ (s_.2.2.1 : Value).ownBlock) (.slice Ao78 t565.length co78) t592) ∧ (Kd.R (Kd.int .i64) 3 w' w.heap.size (fun k_ => some k_ ≠ (v552 : Value).ownBlock ∧ some k_ ≠ (v556 : Value).ownBlock ∧ some k_ ≠ (.slice Ao68 t559.length co68 : Value).ownBlock ∧ some k_ ≠ (.slice Ao78 t565.length co78 : Value).ownBlock ∧ some k_ ≠ (.slice Ao98 t575.length co98 : Value).ownBlock ∧ some k_ ≠ (.slice Ao103 t582.length co103 : Value).ownBlock ∧ some k_ ≠ (.slice Ao107 t587.length co107 : Value).ownBlock ∧ some k_ ≠ (s_.1 : Value).ownBlock ∧ some k_ ≠ (s_.2.1 : Value).ownBlock ∧ some k_ ≠ (s_.2.2.1 : Value).ownBlock) (.slice Ao88 t570.length co88) t594) ∧ (Kd.R (Kd.int .i64) 3 w' w.heap.size (fun k_ => some k_ ≠ (v552 : Value).ownBlock ∧ some k_ ≠ (v556 : Value).ownBlock ∧ some k_ ≠ (.slice Ao68 t559.length co68 : Value).ownBlock ∧ some k_ ≠ (.slice Ao78 t565.length co78 : Value).ownBlock ∧ some k_ ≠ (.slice Ao88 t570.length co88 : Value).ownBlock ∧ some k_ ≠ (.slice Ao103 t582.length co103 : Value).ownBlock ∧ some k_ ≠ (.slice Ao107 t587.length co107 : Value).ownBlock ∧ some k_ ≠ (s_.1 : Value).ownBlock ∧ some k_ ≠ (s_.2.1 : Value).ownBlock ∧ some k_ ≠ (s_.2.2.1 : Value).ownBlock) (.slice Ao98 t575.length co98) t597) ∧ (Kd.R (Kd.int .i64) 3 w' w.heap.size (fun k_ => some k_ ≠ (v552 : Value).ownBlock ∧ some k_ ≠ (v556 : Value).ownBlock ∧ some k_ ≠ (.slice Ao68 t559.length co68 : Value).ownBlock ∧ some k_ ≠ (.slice Ao78 t565.length co78 : Value).ownBlock ∧ some k_ ≠ (.slice Ao88 t570.length co88 : Value).ownBlock ∧ some k_ ≠ (.slice Ao98 t575.length co98 : Value).ownBlock ∧ some k_ ≠ (.slice Ao107 t587.length co107 : Value).ownBlock ∧ some k_ ≠ (s_.1 : Value).ownBlock ∧ some k_ ≠ (s_.2.1 : Value).ownBlock ∧ some k_ ≠ (s_.2.2.1 : Value).ownBlock) (.slice Ao103 t582.length co103) t582) ∧ (Kd.R (Kd.int .i64) 3 w' w.heap.size (fun k_ => some k_ ≠ (v552 : Value).ownBlock ∧ some k_ ≠ (v556 : Value).ownBlock ∧ some k_ ≠ (.slice Ao68 t559.length co68 : Value).ownBlock ∧ some k_ ≠ (.slice Ao78 t565.length co78 : Value).ownBlock ∧ some k_ ≠ (.slice Ao88 t570.length co88 : Value).ownBlock ∧ some k_ ≠ (.slice Ao98 t575.length co98 : Value).ownBlock ∧ some k_ ≠ (.slice Ao103 t582.length co103 : Value).ownBlock ∧ some k_ ≠ (s_.1 : Value).ownBlock ∧ some k_ ≠ (s_.2.1 : Value).ownBlock ∧ some k_ ≠ (s_.2.2.1 : Value).ownBlock) (.slice Ao107 t587.length co107) t587) ∧ (Kd.R (Kd.int .i64) 3 w' w.heap.size (fun k_ => some k_ ≠ (v552 : Value).ownBlock ∧ some k_ ≠ (v556 : Value).ownBlock ∧ some k_ ≠ (.slice Ao68 t559.length co68 : Value).ownBlock ∧ some k_ ≠ (.slice Ao78 t565.length co78 : Value).ownBlock ∧ some k_ ≠ (.slice Ao88 t570.length co88 : Value).ownBlock ∧ some k_ ≠ (.slice Ao98 t575.length co98 : Value).ownBlock ∧ some k_ ≠ (.slice Ao103 t582.length co103 : Value).ownBlock ∧ some k_ ≠ (.slice Ao107 t587.length co107 : Value).ownBlock ∧ some k_ ≠ (s_.2.1 : Value).ownBlock ∧ some k_ ≠ (s_.2.2.1 : Value).ownBlock) s_.1 t600) ∧ (Kd.R (Kd.int .i64) 3 w' w.heap.size (fun k_ => some k_ ≠ (v552 : Value).ownBlock ∧ some k_ ≠ (v556 : Value).ownBlock ∧ some k_ ≠ (.slice Ao68 t559.length co68 : Value).ownBlock ∧ some k_ ≠ (.slice Ao78 t565.length co78 : Value).ownBlock ∧ some k_ ≠ (.slice Ao88 t570.length co88 : Value).ownBlock ∧ some k_ ≠ (.slice Ao98 t575.length co98 : Value).ownBlock ∧ some k_ ≠ (.slice Ao103 t582.length co103 : Value).ownBlock ∧ some k_ ≠ (.slice Ao107 t587.length co107 : Value).ownBlock ∧ some k_ ≠ (s_.1 : Value).ownBlock ∧ some k_ ≠ (s_.2.2.1 : Value).ownBlock) s_.2.1 t604) ∧ (Kd.R (Kd.int .i64) 3 w' w.heap.size (fun k_ => some k_ ≠ (v552 : Value).ownBlock ∧ some k_ ≠ (v556 : Value).ownBlock ∧ some k_ ≠ (.slice Ao68 t559.length co68 : Value).ownBlock ∧ some k_ ≠ (.slice Ao78 t565.length co78 : Value).ownBlock ∧ some k_ ≠ (.slice Ao88 t570.length co88 : Value).ownBlock ∧ some k_ ≠ (.slice Ao98 t575.length co98 : Value).ownBlock ∧ some k_ ≠ (.slice Ao103 t582.length co103 : Value).ownBlock ∧ some k_ ≠ (.slice Ao107 t587.length co107 : Value).ownBlock ∧ some k_ ≠ (s_.1 : Value).ownBlock ∧ some k_ ≠ (s_.2.1 : Value).ownBlock) s_.2.2.1 t608) ∧ (w'.heap[gb546]? = some (.cells #[.int .i64 a0_0, .slice A0_1 l0_1.length c0_1] 24 (0, 0))) ∧ (w'.heap[gb547]? = some (.cells #[.int .i64 a1_0, .slice A1_1 l1_1.length c1_1] 24 (0, 0))) ∧ (w'.heap[gb563]? = some (.cells #[.int .i64 t558, .slice Ao68 t559.length co68] 28 (0, 0))) ∧ (w'.heap[gb568]? = some (.cells #[.int .i64 t564, .slice Ao78 t565.length co78] 28 (0, 0))) ∧ (w'.heap[gb573]? = some (.cells #[.int .i64 t569, .slice Ao88 t570.length co88] 28 (0, 0))) ∧ (w'.heap[gb579]? = some (.cells #[.int .i64 t574, .slice Ao98 t575.length co98] 28 (0, 0))) ∧ (w'.heap[s_.2.2.2]? = some (.cells #[.int .i64 0, .slice none 0 0] 28 (0, 0))) ∧ (w.heap.size ≤ s_.2.2.2) ∧ (w.heap.size ≤ s_.2.2.2) ∧ (gb546 ≠ s_.2.2.2) ∧ (s_.2.2.2 ≠ gb546) ∧ (gb547 ≠ s_.2.2.2) ∧ (s_.2.2.2 ≠ gb547) ∧ (gb563 ≠ s_.2.2.2) ∧ (s_.2.2.2 ≠ gb563) ∧ (gb568 ≠ s_.2.2.2) ∧ (s_.2.2.2 ≠ gb568) ∧ (gb573 ≠ s_.2.2.2) ∧ (s_.2.2.2 ≠ gb573) ∧ (gb579 ≠ s_.2.2.2) ∧ (s_.2.2.2 ≠ gb579) ∧ (Below w.heap.size w w')) ?_ ?_
               rotate_left
               ·intro hCont
                refine two_ (i := 1) (j := 8) (Ni := some 96) (Nj := some 15) #[true, true, true, false, false, false, false, false, false, false, false] #[true, false, true, false, false, false, false, false, true, false, false] rfl rfl rfl rfl (two_of HT_.out (by kernel_rfl)) (by decide) (by decide) (fun K hK => ?_) (fun K hK => ?_)
                ·skip
                 refine gs_ Try.func17 (by kernel_rfl) rfl #[.agg #[.int .i64 a0_0, .slice A0_1 l0_1.length c0_1]] (by rfl) rfl rfl ?_
                 with_reducible refine (laws_toLadder.calls k a0_0 _ _ l0_1 t599 t600 _ ?side1 ?side2 A43.out).mono ?_
                 (case side1 => exact Cl_ (Kd.C_below HR0_1.out HB.out))
                 (case side2 => exact HC0_1.out)
                 rintro e w121 ⟨v601, rfl, ho0, hb⟩
                 refine ⟨_, rfl, ?_⟩
                 have HO602 := Aside0.mk (Kd.R_lower (Kd.R_new' (Kd.R_new' (Kd.R_new' (Kd.R_new' (Kd.R_new' (Kd.R_new' (Kd.R_new' (Kd.R_new' ho0 (Kd.R_lt (Rl_ HO553.out))) (Kd.R_lt (Rl_ HO557.out))) (Kd.R_lt (Rl_ HO561.out))) (Kd.R_lt (Rl_ HO567.out))) (Kd.R_lt (Rl_ HO572.out))) (Kd.R_lt (Rl_ HO577.out))) (Kd.R_lt (Rl_ HO584.out))) (Kd.R_lt (Rl_ HO589.out))) (below_size (Bl_ HB)))
                 replace HO553 := Aside0.mk (Kd.R_elder' (Rl_ HO553.out) (Kd.R_base ho0) hb)
                 replace HO557 := Aside0.mk (Kd.R_elder' (Rl_ HO557.out) (Kd.R_base ho0) hb)
                 replace HO561 := Aside0.mk (Kd.R_elder' (Rl_ HO561.out) (Kd.R_base ho0) hb)
                 replace HO567 := Aside0.mk (Kd.R_elder' (Rl_ HO567.out) (Kd.R_base ho0) hb)
                 replace HO572 := Aside0.mk (Kd.R_elder' (Rl_ HO572.out) (Kd.R_base ho0) hb)
                 replace HO577 := Aside0.mk (Kd.R_elder' (Rl_ HO577.out) (Kd.R_base ho0) hb)
                 replace HO584 := Aside0.mk (Kd.R_elder' (Rl_ HO584.out) (Kd.R_base ho0) hb)
                 replace HO589 := Aside0.mk (Kd.R_elder' (Rl_ HO589.out) (Kd.R_base ho0) hb)
                 replace BK546 := blkB_ BK546 hb
                 replace BK547 := blkB_ BK547 hb
                 replace BK563 := blkB_ BK563 hb
                 replace BK568 := blkB_ BK568 hb
                 replace BK573 := blkB_ BK573 hb
                 replace BK579 := blkB_ BK579 hb
                 replace HB := Aside0.mk (below_step (Bl_ HB) hb)
                 (try clear hb); (try clear hb2); (try clear hk); (try clear hi); (try clear ho0)
                 refine hK.out _ _ ⟨(blk_cell BK546.out 0).trans rfl, (blk_cell BK546.out 1).trans rfl, (blk_cell BK547.out 0).trans rfl, (blk_cell BK547.out 1).trans rfl⟩ (fun hHeld => ?_)
                 clear hK K
                 refine norm_ (a' := ?_) ?_ ?_
                 rotate_left
                 ·show Act.put _ (some 96) _ = _
                  simp only [Act.put, List.setIfInBounds_toArray, List.set_cons_zero, List.set_cons_succ, i64_w, i32_w]
                  rfl
                 refine two_ (i := 3) (j := 8) (Ni := some 98) (Nj := some 15) #[true, true, true, true, false, false, false, false, false, false, false] #[true, true, true, false, false, false, false, false, true, false, false] rfl rfl rfl rfl (two_of HT_.out (by kernel_rfl)) (by decide) (by decide) (fun K hK => ?_) (fun K hK => ?_)
                 ·skip
                  refine gs_ Try.func17 (by kernel_rfl) rfl #[.agg #[.int .i64 a1_0, .slice A1_1 l1_1.length c1_1]] (by rfl) rfl rfl ?_
                  with_reducible refine (laws_toLadder.calls k a1_0 _ _ l1_1 t603 t604 _ ?side1 ?side2 A44.out).mono ?_
                  (case side1 => exact Cl_ (Kd.C_below HR1_1.out HB.out))
                  (case side2 => exact HC1_1.out)
                  rintro e w122 ⟨v605, rfl, ho0, hb⟩
                  refine ⟨_, rfl, ?_⟩
                  have HO606 := Aside0.mk (Kd.R_lower (Kd.R_new' (Kd.R_new' (Kd.R_new' (Kd.R_new' (Kd.R_new' (Kd.R_new' (Kd.R_new' (Kd.R_new' (Kd.R_new' ho0 (Kd.R_lt (Rl_ HO553.out))) (Kd.R_lt (Rl_ HO557.out))) (Kd.R_lt (Rl_ HO561.out))) (Kd.R_lt (Rl_ HO567.out))) (Kd.R_lt (Rl_ HO572.out))) (Kd.R_lt (Rl_ HO577.out))) (Kd.R_lt (Rl_ HO584.out))) (Kd.R_lt (Rl_ HO589.out))) (Kd.R_lt (Rl_ HO602.out))) (below_size (Bl_ HB)))
                  replace HO553 := Aside0.mk (Kd.R_elder' (Rl_ HO553.out) (Kd.R_base ho0) hb)
                  replace HO557 := Aside0.mk (Kd.R_elder' (Rl_ HO557.out) (Kd.R_base ho0) hb)
                  replace HO561 := Aside0.mk (Kd.R_elder' (Rl_ HO561.out) (Kd.R_base ho0) hb)
                  replace HO567 := Aside0.mk (Kd.R_elder' (Rl_ HO567.out) (Kd.R_base ho0) hb)
                  replace HO572 := Aside0.mk (Kd.R_elder' (Rl_ HO572.out) (Kd.R_base ho0) hb)
                  replace HO577 := Aside0.mk (Kd.R_elder' (Rl_ HO577.out) (Kd.R_base ho0) hb)
                  replace HO584 := Aside0.mk (Kd.R_elder' (Rl_ HO584.out) (Kd.R_base ho0) hb)
                  replace HO589 := Aside0.mk (Kd.R_elder' (Rl_ HO589.out) (Kd.R_base ho0) hb)
                  replace HO602 := Aside0.mk (Kd.R_elder' (Rl_ HO602.out) (Kd.R_base ho0) hb)
                  replace BK546 := blkB_ BK546 hb
                  replace BK547 := blkB_ BK547 hb
                  replace BK563 := blkB_ BK563 hb
                  replace BK568 := blkB_ BK568 hb
                  replace BK573 := blkB_ BK573 hb
                  replace BK579 := blkB_ BK579 hb
                  replace HB := Aside0.mk (below_step (Bl_ HB) hb)
                  (try clear hb); (try clear hb2); (try clear hk); (try clear hi); (try clear ho0)
                  obtain ⟨Ao123, co123, eo123⟩ := Kd.R_slice HO602.out
                  (first | subst eo123 | (injection eo123 with f1_ f2_ f3_; have f4_ := f1_.symm; have f5_ := f3_.symm; clear f1_ f2_ f3_; subst f4_; subst f5_))
                  obtain ⟨Ao124, co124, eo124⟩ := Kd.R_slice HO606.out
                  (first | subst eo124 | (injection eo124 with f1_ f2_ f3_; have f4_ := f1_.symm; have f5_ := f3_.symm; clear f1_ f2_ f3_; subst f4_; subst f5_))
                  refine hK.out _ _ ⟨(blk_cell BK546.out 0).trans rfl, (blk_cell BK546.out 1).trans rfl, (blk_cell BK547.out 0).trans rfl, (blk_cell BK547.out 1).trans rfl⟩ (fun hHeld => ?_)
                  clear hK K
                  refine norm_ (a' := ?_) ?_ ?_
                  rotate_left
                  ·show Act.put _ (some 98) _ = _
                   simp only [Act.put, List.setIfInBounds_toArray, List.set_cons_zero, List.set_cons_succ, i64_w, i32_w]
                   rfl
                  refine two_ (i := 4) (j := 8) (Ni := some 99) (Nj := some 15) #[true, true, true, true, true, false, false, false, false, false, false] #[true, true, true, true, false, false, false, false, true, false, false] rfl rfl rfl rfl (two_of HT_.out (by kernel_rfl)) (by decide) (by decide) (fun K hK => ?_) (fun K hK => ?_)
                  ·skip
                   refine gs_ Try.func37 (by kernel_rfl) rfl #[.agg #[.int .i64 t599, .slice Ao123 t600.length co123], .agg #[.int .i64 t603, .slice Ao124 t604.length co124]] (by rfl) rfl rfl ?_
                   with_reducible refine (impl_BesideLadders.calls k t599 _ _ t600 t603 _ _ t604 t607 t608 t611 _ ?side1 ?side2 ?side3 ?side4 A45.out).mono ?_
                   (case side1 => exact Cl_ (Kd.R_reads' HO602.out).2.2)
                   (case side2 => exact (Kd.R_reads' HO602.out).2.1)
                   (case side3 => exact Cl_ (Kd.R_reads' HO606.out).2.2)
                   (case side4 => exact (Kd.R_reads' HO606.out).2.1)
                   rintro e w125 ⟨v609, rfl, ho0, hb⟩
                   refine ⟨_, rfl, ?_⟩
                   have HO610 := Aside0.mk (Kd.R_lower (Kd.R_new' (Kd.R_new' (Kd.R_new' (Kd.R_new' (Kd.R_new' (Kd.R_new' (Kd.R_new' (Kd.R_new' (Kd.R_new' (Kd.R_new' ho0 (Kd.R_lt (Rl_ HO553.out))) (Kd.R_lt (Rl_ HO557.out))) (Kd.R_lt (Rl_ HO561.out))) (Kd.R_lt (Rl_ HO567.out))) (Kd.R_lt (Rl_ HO572.out))) (Kd.R_lt (Rl_ HO577.out))) (Kd.R_lt (Rl_ HO584.out))) (Kd.R_lt (Rl_ HO589.out))) (Kd.R_lt (Rl_ HO602.out))) (Kd.R_lt (Rl_ HO606.out))) (below_size (Bl_ HB)))
                   replace HO553 := Aside0.mk (Kd.R_elder' (Rl_ HO553.out) (Kd.R_base ho0) hb)
                   replace HO557 := Aside0.mk (Kd.R_elder' (Rl_ HO557.out) (Kd.R_base ho0) hb)
                   replace HO561 := Aside0.mk (Kd.R_elder' (Rl_ HO561.out) (Kd.R_base ho0) hb)
                   replace HO567 := Aside0.mk (Kd.R_elder' (Rl_ HO567.out) (Kd.R_base ho0) hb)
                   replace HO572 := Aside0.mk (Kd.R_elder' (Rl_ HO572.out) (Kd.R_base ho0) hb)
                   replace HO577 := Aside0.mk (Kd.R_elder' (Rl_ HO577.out) (Kd.R_base ho0) hb)
                   replace HO584 := Aside0.mk (Kd.R_elder' (Rl_ HO584.out) (Kd.R_base ho0) hb)
                   replace HO589 := Aside0.mk (Kd.R_elder' (Rl_ HO589.out) (Kd.R_base ho0) hb)
                   replace HO602 := Aside0.mk (Kd.R_elder' (Rl_ HO602.out) (Kd.R_base ho0) hb)
                   replace HO606 := Aside0.mk (Kd.R_elder' (Rl_ HO606.out) (Kd.R_base ho0) hb)
                   replace BK546 := blkB_ BK546 hb
                   replace BK547 := blkB_ BK547 hb
                   replace BK563 := blkB_ BK563 hb
                   replace BK568 := blkB_ BK568 hb
                   replace BK573 := blkB_ BK573 hb
                   replace BK579 := blkB_ BK579 hb
                   replace HB := Aside0.mk (below_step (Bl_ HB) hb)
                   (try clear hb); (try clear hb2); (try clear hk); (try clear hi); (try clear ho0)
                   refine hK.out _ _ ⟨(blk_cell BK546.out 0).trans rfl, (blk_cell BK546.out 1).trans rfl, (blk_cell BK547.out 0).trans rfl, (blk_cell BK547.out 1).trans rfl⟩ (fun hHeld => ?_)
                   clear hK K
                   refine norm_ (a' := ?_) ?_ ?_
                   rotate_left
                   ·show Act.put _ (some 99) _ = _
                    simp only [Act.put, List.setIfInBounds_toArray, List.set_cons_zero, List.set_cons_succ, i64_w, i32_w]
                    rfl
                   refine pure_ (i := 5) (N := some 94) (v := ?_) (a' := ?_) #[true, true, true, true, true, true, false, false, false, false, false] rfl rfl (any_of HT_.out (by kernel_rfl)) (fun _ _ _ h => h) (Or.inl ⟨by rfl, ?_⟩) ?_ ?_
                   rotate_left
                   ·intro w'
                    go_simp
                    with_reducible rfl
                   rotate_left
                   ·simp only [Act.put, List.setIfInBounds_toArray, List.set_cons_zero, List.set_cons_succ, i64_w, i32_w]
                    rfl
                   refine pure_ (i := 6) (N := some 100) (v := ?_) (a' := ?_) #[true, true, true, true, true, true, true, false, false, false, false] rfl rfl (any_of HT_.out (by kernel_rfl)) (fun _ _ _ h => h) (Or.inl ⟨by rfl, ?_⟩) ?_ ?_
                   rotate_left
                   ·intro w'
                    go_simp
                    with_reducible rfl
                   rotate_left
                   ·simp only [Act.put, List.setIfInBounds_toArray, List.set_cons_zero, List.set_cons_succ, i64_w, i32_w]
                    rfl
                   refine pure_ (i := 7) (N := some 101) (v := ?_) (a' := ?_) #[true, true, true, true, true, true, true, true, false, false, false] rfl rfl (any_of HT_.out (by kernel_rfl)) (fun _ _ _ h => h) (Or.inl ⟨by rfl, ?_⟩) ?_ ?_
                   rotate_left
                   ·intro w'
                    go_simp
                    with_reducible rfl
                   rotate_left
                   ·simp only [Act.put, List.setIfInBounds_toArray, List.set_cons_zero, List.set_cons_succ, i64_w, i32_w]
                    rfl
                   refine one_ (i := 8) (N := some 15) #[true, true, true, true, true, true, true, true, true, false, false] rfl rfl (one_of HT_.out (by kernel_rfl)) (by decide) (fun K hK => ?_)
                   refine box_step ?hg (N := 15) ?hd (cs := #[.int .i64 0, .slice none 0 0]) (t := 28) ?hr ?_; (case hd => rfl); (case hg => rfl); (case hr => first | (go_simp; done) | (go_simp; rfl))
                   intro gb612 hg w126 hbox hb
                   replace HO553 := Aside0.mk (Kd.R_below (Rl_ HO553.out) hb)
                   replace HO557 := Aside0.mk (Kd.R_below (Rl_ HO557.out) hb)
                   replace HO561 := Aside0.mk (Kd.R_below (Rl_ HO561.out) hb)
                   replace HO567 := Aside0.mk (Kd.R_below (Rl_ HO567.out) hb)
                   replace HO572 := Aside0.mk (Kd.R_below (Rl_ HO572.out) hb)
                   replace HO577 := Aside0.mk (Kd.R_below (Rl_ HO577.out) hb)
                   replace HO584 := Aside0.mk (Kd.R_below (Rl_ HO584.out) hb)
                   replace HO589 := Aside0.mk (Kd.R_below (Rl_ HO589.out) hb)
                   replace HO602 := Aside0.mk (Kd.R_below (Rl_ HO602.out) hb)
                   replace HO606 := Aside0.mk (Kd.R_below (Rl_ HO606.out) hb)
                   replace HO610 := Aside0.mk (Kd.R_below (Rl_ HO610.out) hb)
                   have BK612 := Aside0.mk (hbox)
                   have GW612 := Aside0.mk ((by rw [hg]; exact (below_size (Bl_ HB)) : w.heap.size ≤ gb612))
                   have GE612 := Aside0.mk ((by rw [hg]; exact (below_size (Bl_ HB)) : w.heap.size ≤ gb612))
                   replace HB := Aside0.mk (below_step (Bl_ HB) hb)
                   have NB546_612 := Aside0.mk ((by rw [hg]; exact Nat.ne_of_lt (blk_lt (g := gb546) (o := .cells #[.int .i64 a0_0, .slice A0_1 l0_1.length c0_1] 24 (0, 0)) (bl_ BK546)) : gb546 ≠ gb612))
                   have NB612_546 := Aside0.mk ((by rw [hg]; exact Nat.ne_of_gt (blk_lt (g := gb546) (o := .cells #[.int .i64 a0_0, .slice A0_1 l0_1.length c0_1] 24 (0, 0)) (bl_ BK546)) : gb612 ≠ gb546))
                   replace BK546 := blkB_ BK546 hb
                   have NB547_612 := Aside0.mk ((by rw [hg]; exact Nat.ne_of_lt (blk_lt (g := gb547) (o := .cells #[.int .i64 a1_0, .slice A1_1 l1_1.length c1_1] 24 (0, 0)) (bl_ BK547)) : gb547 ≠ gb612))
                   have NB612_547 := Aside0.mk ((by rw [hg]; exact Nat.ne_of_gt (blk_lt (g := gb547) (o := .cells #[.int .i64 a1_0, .slice A1_1 l1_1.length c1_1] 24 (0, 0)) (bl_ BK547)) : gb612 ≠ gb547))
                   replace BK547 := blkB_ BK547 hb
                   have NB563_612 := Aside0.mk ((by rw [hg]; exact Nat.ne_of_lt (blk_lt (g := gb563) (o := .cells #[.int .i64 t558, .slice Ao68 t559.length co68] 28 (0, 0)) (bl_ BK563)) : gb563 ≠ gb612))
                   have NB612_563 := Aside0.mk ((by rw [hg]; exact Nat.ne_of_gt (blk_lt (g := gb563) (o := .cells #[.int .i64 t558, .slice Ao68 t559.length co68] 28 (0, 0)) (bl_ BK563)) : gb612 ≠ gb563))
                   replace BK563 := blkB_ BK563 hb
                   have NB568_612 := Aside0.mk ((by rw [hg]; exact Nat.ne_of_lt (blk_lt (g := gb568) (o := .cells #[.int .i64 t564, .slice Ao78 t565.length co78] 28 (0, 0)) (bl_ BK568)) : gb568 ≠ gb612))
                   have NB612_568 := Aside0.mk ((by rw [hg]; exact Nat.ne_of_gt (blk_lt (g := gb568) (o := .cells #[.int .i64 t564, .slice Ao78 t565.length co78] 28 (0, 0)) (bl_ BK568)) : gb612 ≠ gb568))
                   replace BK568 := blkB_ BK568 hb
                   have NB573_612 := Aside0.mk ((by rw [hg]; exact Nat.ne_of_lt (blk_lt (g := gb573) (o := .cells #[.int .i64 t569, .slice Ao88 t570.length co88] 28 (0, 0)) (bl_ BK573)) : gb573 ≠ gb612))
                   have NB612_573 := Aside0.mk ((by rw [hg]; exact Nat.ne_of_gt (blk_lt (g := gb573) (o := .cells #[.int .i64 t569, .slice Ao88 t570.length co88] 28 (0, 0)) (bl_ BK573)) : gb612 ≠ gb573))
                   replace BK573 := blkB_ BK573 hb
                   have NB579_612 := Aside0.mk ((by rw [hg]; exact Nat.ne_of_lt (blk_lt (g := gb579) (o := .cells #[.int .i64 t574, .slice Ao98 t575.length co98] 28 (0, 0)) (bl_ BK579)) : gb579 ≠ gb612))
                   have NB612_579 := Aside0.mk ((by rw [hg]; exact Nat.ne_of_gt (blk_lt (g := gb579) (o := .cells #[.int .i64 t574, .slice Ao98 t575.length co98] 28 (0, 0)) (bl_ BK579)) : gb612 ≠ gb579))
                   replace BK579 := blkB_ BK579 hb
                   clear hb hbox hg
                   refine hK.out _ _ ⟨(blk_cell BK546.out 0).trans rfl, (blk_cell BK546.out 1).trans rfl, (blk_cell BK547.out 0).trans rfl, (blk_cell BK547.out 1).trans rfl⟩ (fun hHeld => ?_)
                   clear hK K
                   refine norm_ (a' := ?_) ?_ ?_
                   rotate_left
                   ·show Act.put _ (some 15) _ = _
                    simp only [Act.put, List.setIfInBounds_toArray, List.set_cons_zero, List.set_cons_succ, i64_w, i32_w]
                    rfl
                   exact norm_ (by simp only [putAll, Act.put, List.setIfInBounds_toArray, List.set_cons_zero, List.set_cons_succ]) (hCont (.slice Ao123 t600.length co123, .slice Ao124 t604.length co124, v609, gb612) _ ⟨hHeld, (Rl_ (Kd.R_mono HO553.out (fun _ hk => ⟨hk.1.1.1.1, ⟨hk.1.1.1.2.1, ⟨hk.1.1.1.2.2.1, ⟨hk.1.1.1.2.2.2.1, ⟨hk.1.1.1.2.2.2.2.1, ⟨hk.1.1.1.2.2.2.2.2.1, ⟨hk.1.1.1.2.2.2.2.2.2, ⟨hk.1.1.2, ⟨hk.1.2, hk.2⟩⟩⟩⟩⟩⟩⟩⟩⟩))), (Rl_ (Kd.R_mono HO557.out (fun _ hk => ⟨hk.1.1.1.1, ⟨hk.1.1.1.2.1, ⟨hk.1.1.1.2.2.1, ⟨hk.1.1.1.2.2.2.1, ⟨hk.1.1.1.2.2.2.2.1, ⟨hk.1.1.1.2.2.2.2.2.1, ⟨hk.1.1.1.2.2.2.2.2.2, ⟨hk.1.1.2, ⟨hk.1.2, hk.2⟩⟩⟩⟩⟩⟩⟩⟩⟩))), (Rl_ (Kd.R_mono HO561.out (fun _ hk => ⟨hk.1.1.1.1, ⟨hk.1.1.1.2.1, ⟨hk.1.1.1.2.2.1, ⟨hk.1.1.1.2.2.2.1, ⟨hk.1.1.1.2.2.2.2.1, ⟨hk.1.1.1.2.2.2.2.2.1, ⟨hk.1.1.1.2.2.2.2.2.2, ⟨hk.1.1.2, ⟨hk.1.2, hk.2⟩⟩⟩⟩⟩⟩⟩⟩⟩))), (Rl_ (Kd.R_mono HO567.out (fun _ hk => ⟨hk.1.1.1.1, ⟨hk.1.1.1.2.1, ⟨hk.1.1.1.2.2.1, ⟨hk.1.1.1.2.2.2.1, ⟨hk.1.1.1.2.2.2.2.1, ⟨hk.1.1.1.2.2.2.2.2.1, ⟨hk.1.1.1.2.2.2.2.2.2, ⟨hk.1.1.2, ⟨hk.1.2, hk.2⟩⟩⟩⟩⟩⟩⟩⟩⟩))), (Rl_ (Kd.R_mono HO572.out (fun _ hk => ⟨hk.1.1.1.1, ⟨hk.1.1.1.2.1, ⟨hk.1.1.1.2.2.1, ⟨hk.1.1.1.2.2.2.1, ⟨hk.1.1.1.2.2.2.2.1, ⟨hk.1.1.1.2.2.2.2.2.1, ⟨hk.1.1.1.2.2.2.2.2.2, ⟨hk.1.1.2, ⟨hk.1.2, hk.2⟩⟩⟩⟩⟩⟩⟩⟩⟩))), (Rl_ (Kd.R_mono HO577.out (fun _ hk => ⟨hk.1.1.1.1, ⟨hk.1.1.1.2.1, ⟨hk.1.1.1.2.2.1, ⟨hk.1.1.1.2.2.2.1, ⟨hk.1.1.1.2.2.2.2.1, ⟨hk.1.1.1.2.2.2.2.2.1, ⟨hk.1.1.1.2.2.2.2.2.2, ⟨hk.1.1.2, ⟨hk.1.2, hk.2⟩⟩⟩⟩⟩⟩⟩⟩⟩))), (Rl_ (Kd.R_mono HO584.out (fun _ hk => ⟨hk.1.1.1.1, ⟨hk.1.1.1.2.1, ⟨hk.1.1.1.2.2.1, ⟨hk.1.1.1.2.2.2.1, ⟨hk.1.1.1.2.2.2.2.1, ⟨hk.1.1.1.2.2.2.2.2.1, ⟨hk.1.1.1.2.2.2.2.2.2, ⟨hk.1.1.2, ⟨hk.1.2, hk.2⟩⟩⟩⟩⟩⟩⟩⟩⟩))), (Rl_ (Kd.R_mono HO589.out (fun _ hk => ⟨hk.1.1.1.1, ⟨hk.1.1.1.2.1, ⟨hk.1.1.1.2.2.1, ⟨hk.1.1.1.2.2.2.1, ⟨hk.1.1.1.2.2.2.2.1, ⟨hk.1.1.1.2.2.2.2.2.1, ⟨hk.1.1.1.2.2.2.2.2.2, ⟨hk.1.1.2, ⟨hk.1.2, hk.2⟩⟩⟩⟩⟩⟩⟩⟩⟩))), (Rl_ (Kd.R_mono HO602.out (fun _ hk => ⟨hk.1.1.1.1.1.1.1.1.1.2, ⟨hk.1.1.1.1.1.1.1.1.2, ⟨hk.1.1.1.1.1.1.1.2, ⟨hk.1.1.1.1.1.1.2, ⟨hk.1.1.1.1.1.2, ⟨hk.1.1.1.1.2, ⟨hk.1.1.1.2, ⟨hk.1.1.2, ⟨hk.1.2, hk.2⟩⟩⟩⟩⟩⟩⟩⟩⟩))), (Rl_ (Kd.R_mono HO606.out (fun _ hk => ⟨hk.1.1.1.1.1.1.1.1.1.2, ⟨hk.1.1.1.1.1.1.1.1.2, ⟨hk.1.1.1.1.1.1.1.2, ⟨hk.1.1.1.1.1.1.2, ⟨hk.1.1.1.1.1.2, ⟨hk.1.1.1.1.2, ⟨hk.1.1.1.2, ⟨hk.1.1.2, ⟨hk.1.2, hk.2⟩⟩⟩⟩⟩⟩⟩⟩⟩))), (Rl_ (Kd.R_mono HO610.out (fun _ hk => ⟨hk.1.1.1.1.1.1.1.1.1.2, ⟨hk.1.1.1.1.1.1.1.1.2, ⟨hk.1.1.1.1.1.1.1.2, ⟨hk.1.1.1.1.1.1.2, ⟨hk.1.1.1.1.1.2, ⟨hk.1.1.1.1.2, ⟨hk.1.1.1.2, ⟨hk.1.1.2, ⟨hk.1.2, hk.2⟩⟩⟩⟩⟩⟩⟩⟩⟩))), (bl_ BK546), (bl_ BK547), (bl_ BK563), (bl_ BK568), (bl_ BK573), (bl_ BK579), (bl_ BK612), GW612.out, GE612.out, NB546_612.out, NB612_546.out, NB547_612.out, NB612_547.out, NB563_612.out, NB612_563.out, NB568_612.out, NB612_568.out, NB573_612.out, NB612_573.out, NB579_612.out, NB612_579.out, (Bl_ HB)⟩)
                  ·skip
                   refine box_step ?hg (N := 15) ?hd (cs := #[.int .i64 0, .slice none 0 0]) (t := 28) ?hr ?_; (case hd => rfl); (case hg => rfl); (case hr => first | (go_simp; done) | (go_simp; rfl))
                   intro gb612 hg w123 hbox hb
                   replace HO553 := Aside0.mk (Kd.R_below (Rl_ HO553.out) hb)
                   replace HO557 := Aside0.mk (Kd.R_below (Rl_ HO557.out) hb)
                   replace HO561 := Aside0.mk (Kd.R_below (Rl_ HO561.out) hb)
                   replace HO567 := Aside0.mk (Kd.R_below (Rl_ HO567.out) hb)
                   replace HO572 := Aside0.mk (Kd.R_below (Rl_ HO572.out) hb)
                   replace HO577 := Aside0.mk (Kd.R_below (Rl_ HO577.out) hb)
                   replace HO584 := Aside0.mk (Kd.R_below (Rl_ HO584.out) hb)
                   replace HO589 := Aside0.mk (Kd.R_below (Rl_ HO589.out) hb)
                   replace HO602 := Aside0.mk (Kd.R_below (Rl_ HO602.out) hb)
                   replace HO606 := Aside0.mk (Kd.R_below (Rl_ HO606.out) hb)
                   have BK612 := Aside0.mk (hbox)
                   have GW612 := Aside0.mk ((by rw [hg]; exact (below_size (Bl_ HB)) : w.heap.size ≤ gb612))
                   have GE612 := Aside0.mk ((by rw [hg]; exact (below_size (Bl_ HB)) : w.heap.size ≤ gb612))
                   replace HB := Aside0.mk (below_step (Bl_ HB) hb)
                   have NB546_612 := Aside0.mk ((by rw [hg]; exact Nat.ne_of_lt (blk_lt (g := gb546) (o := .cells #[.int .i64 a0_0, .slice A0_1 l0_1.length c0_1] 24 (0, 0)) (bl_ BK546)) : gb546 ≠ gb612))
                   have NB612_546 := Aside0.mk ((by rw [hg]; exact Nat.ne_of_gt (blk_lt (g := gb546) (o := .cells #[.int .i64 a0_0, .slice A0_1 l0_1.length c0_1] 24 (0, 0)) (bl_ BK546)) : gb612 ≠ gb546))
                   replace BK546 := blkB_ BK546 hb
                   have NB547_612 := Aside0.mk ((by rw [hg]; exact Nat.ne_of_lt (blk_lt (g := gb547) (o := .cells #[.int .i64 a1_0, .slice A1_1 l1_1.length c1_1] 24 (0, 0)) (bl_ BK547)) : gb547 ≠ gb612))
                   have NB612_547 := Aside0.mk ((by rw [hg]; exact Nat.ne_of_gt (blk_lt (g := gb547) (o := .cells #[.int .i64 a1_0, .slice A1_1 l1_1.length c1_1] 24 (0, 0)) (bl_ BK547)) : gb612 ≠ gb547))
                   replace BK547 := blkB_ BK547 hb
                   have NB563_612 := Aside0.mk ((by rw [hg]; exact Nat.ne_of_lt (blk_lt (g := gb563) (o := .cells #[.int .i64 t558, .slice Ao68 t559.length co68] 28 (0, 0)) (bl_ BK563)) : gb563 ≠ gb612))
                   have NB612_563 := Aside0.mk ((by rw [hg]; exact Nat.ne_of_gt (blk_lt (g := gb563) (o := .cells #[.int .i64 t558, .slice Ao68 t559.length co68] 28 (0, 0)) (bl_ BK563)) : gb612 ≠ gb563))
                   replace BK563 := blkB_ BK563 hb
                   have NB568_612 := Aside0.mk ((by rw [hg]; exact Nat.ne_of_lt (blk_lt (g := gb568) (o := .cells #[.int .i64 t564, .slice Ao78 t565.length co78] 28 (0, 0)) (bl_ BK568)) : gb568 ≠ gb612))
                   have NB612_568 := Aside0.mk ((by rw [hg]; exact Nat.ne_of_gt (blk_lt (g := gb568) (o := .cells #[.int .i64 t564, .slice Ao78 t565.length co78] 28 (0, 0)) (bl_ BK568)) : gb612 ≠ gb568))
                   replace BK568 := blkB_ BK568 hb
                   have NB573_612 := Aside0.mk ((by rw [hg]; exact Nat.ne_of_lt (blk_lt (g := gb573) (o := .cells #[.int .i64 t569, .slice Ao88 t570.length co88] 28 (0, 0)) (bl_ BK573)) : gb573 ≠ gb612))
                   have NB612_573 := Aside0.mk ((by rw [hg]; exact Nat.ne_of_gt (blk_lt (g := gb573) (o := .cells #[.int .i64 t569, .slice Ao88 t570.length co88] 28 (0, 0)) (bl_ BK573)) : gb612 ≠ gb573))
                   replace BK573 := blkB_ BK573 hb
                   have NB579_612 := Aside0.mk ((by rw [hg]; exact Nat.ne_of_lt (blk_lt (g := gb579) (o := .cells #[.int .i64 t574, .slice Ao98 t575.length co98] 28 (0, 0)) (bl_ BK579)) : gb579 ≠ gb612))
                   have NB612_579 := Aside0.mk ((by rw [hg]; exact Nat.ne_of_gt (blk_lt (g := gb579) (o := .cells #[.int .i64 t574, .slice Ao98 t575.length co98] 28 (0, 0)) (bl_ BK579)) : gb612 ≠ gb579))
                   replace BK579 := blkB_ BK579 hb
                   clear hb hbox hg
                   obtain ⟨Ao124, co124, eo124⟩ := Kd.R_slice HO602.out
                   (first | subst eo124 | (injection eo124 with f1_ f2_ f3_; have f4_ := f1_.symm; have f5_ := f3_.symm; clear f1_ f2_ f3_; subst f4_; subst f5_))
                   obtain ⟨Ao125, co125, eo125⟩ := Kd.R_slice HO606.out
                   (first | subst eo125 | (injection eo125 with f1_ f2_ f3_; have f4_ := f1_.symm; have f5_ := f3_.symm; clear f1_ f2_ f3_; subst f4_; subst f5_))
                   refine hK.out _ _ ⟨(blk_cell BK546.out 0).trans rfl, (blk_cell BK546.out 1).trans rfl, (blk_cell BK547.out 0).trans rfl, (blk_cell BK547.out 1).trans rfl⟩ (fun hHeld => ?_)
                   clear hK K
                   refine norm_ (a' := ?_) ?_ ?_
                   rotate_left
                   ·show Act.put _ (some 15) _ = _
                    simp only [Act.put, List.setIfInBounds_toArray, List.set_cons_zero, List.set_cons_succ, i64_w, i32_w]
                    rfl
                   refine one_ (i := 4) (N := some 99) #[true, true, true, true, true, false, false, false, true, false, false] rfl rfl (one_of HT_.out (by kernel_rfl)) (by decide) (fun K hK => ?_)
                   refine gs_ Try.func37 (by kernel_rfl) rfl #[.agg #[.int .i64 t599, .slice Ao124 t600.length co124], .agg #[.int .i64 t603, .slice Ao125 t604.length co125]] (by rfl) rfl rfl ?_
                   with_reducible refine (impl_BesideLadders.calls k t599 _ _ t600 t603 _ _ t604 t607 t608 t611 _ ?side1 ?side2 ?side3 ?side4 A45.out).mono ?_
                   (case side1 => exact Cl_ (Kd.R_reads' HO602.out).2.2)
                   (case side2 => exact (Kd.R_reads' HO602.out).2.1)
                   (case side3 => exact Cl_ (Kd.R_reads' HO606.out).2.2)
                   (case side4 => exact (Kd.R_reads' HO606.out).2.1)
                   rintro e w126 ⟨v609, rfl, ho0, hb⟩
                   refine ⟨_, rfl, ?_⟩
                   have HO610 := Aside0.mk (Kd.R_lower (Kd.R_new' (Kd.R_new' (Kd.R_new' (Kd.R_new' (Kd.R_new' (Kd.R_new' (Kd.R_new' (Kd.R_new' (Kd.R_new' (Kd.R_new' ho0 (Kd.R_lt (Rl_ HO553.out))) (Kd.R_lt (Rl_ HO557.out))) (Kd.R_lt (Rl_ HO561.out))) (Kd.R_lt (Rl_ HO567.out))) (Kd.R_lt (Rl_ HO572.out))) (Kd.R_lt (Rl_ HO577.out))) (Kd.R_lt (Rl_ HO584.out))) (Kd.R_lt (Rl_ HO589.out))) (Kd.R_lt (Rl_ HO602.out))) (Kd.R_lt (Rl_ HO606.out))) (below_size (Bl_ HB)))
                   replace HO553 := Aside0.mk (Kd.R_elder' (Rl_ HO553.out) (Kd.R_base ho0) hb)
                   replace HO557 := Aside0.mk (Kd.R_elder' (Rl_ HO557.out) (Kd.R_base ho0) hb)
                   replace HO561 := Aside0.mk (Kd.R_elder' (Rl_ HO561.out) (Kd.R_base ho0) hb)
                   replace HO567 := Aside0.mk (Kd.R_elder' (Rl_ HO567.out) (Kd.R_base ho0) hb)
                   replace HO572 := Aside0.mk (Kd.R_elder' (Rl_ HO572.out) (Kd.R_base ho0) hb)
                   replace HO577 := Aside0.mk (Kd.R_elder' (Rl_ HO577.out) (Kd.R_base ho0) hb)
                   replace HO584 := Aside0.mk (Kd.R_elder' (Rl_ HO584.out) (Kd.R_base ho0) hb)
                   replace HO589 := Aside0.mk (Kd.R_elder' (Rl_ HO589.out) (Kd.R_base ho0) hb)
                   replace HO602 := Aside0.mk (Kd.R_elder' (Rl_ HO602.out) (Kd.R_base ho0) hb)
                   replace HO606 := Aside0.mk (Kd.R_elder' (Rl_ HO606.out) (Kd.R_base ho0) hb)
                   replace BK546 := blkB_ BK546 hb
                   replace BK547 := blkB_ BK547 hb
                   replace BK563 := blkB_ BK563 hb
                   replace BK568 := blkB_ BK568 hb
                   replace BK573 := blkB_ BK573 hb
                   replace BK579 := blkB_ BK579 hb
                   replace BK612 := blkB_ BK612 hb
                   replace HB := Aside0.mk (below_step (Bl_ HB) hb)
                   (try clear hb); (try clear hb2); (try clear hk); (try clear hi); (try clear ho0)
                   refine hK.out _ _ ⟨(blk_cell BK546.out 0).trans rfl, (blk_cell BK546.out 1).trans rfl, (blk_cell BK547.out 0).trans rfl, (blk_cell BK547.out 1).trans rfl⟩ (fun hHeld => ?_)
                   clear hK K
                   refine norm_ (a' := ?_) ?_ ?_
                   rotate_left
                   ·show Act.put _ (some 99) _ = _
                    simp only [Act.put, List.setIfInBounds_toArray, List.set_cons_zero, List.set_cons_succ, i64_w, i32_w]
                    rfl
                   refine pure_ (i := 5) (N := some 94) (v := ?_) (a' := ?_) #[true, true, true, true, true, true, false, false, true, false, false] rfl rfl (any_of HT_.out (by kernel_rfl)) (fun _ _ _ h => h) (Or.inl ⟨by rfl, ?_⟩) ?_ ?_
                   rotate_left
                   ·intro w'
                    go_simp
                    with_reducible rfl
                   rotate_left
                   ·simp only [Act.put, List.setIfInBounds_toArray, List.set_cons_zero, List.set_cons_succ, i64_w, i32_w]
                    rfl
                   refine pure_ (i := 6) (N := some 100) (v := ?_) (a' := ?_) #[true, true, true, true, true, true, true, false, true, false, false] rfl rfl (any_of HT_.out (by kernel_rfl)) (fun _ _ _ h => h) (Or.inl ⟨by rfl, ?_⟩) ?_ ?_
                   rotate_left
                   ·intro w'
                    go_simp
                    with_reducible rfl
                   rotate_left
                   ·simp only [Act.put, List.setIfInBounds_toArray, List.set_cons_zero, List.set_cons_succ, i64_w, i32_w]
                    rfl
                   refine pure_ (i := 7) (N := some 101) (v := ?_) (a' := ?_) #[true, true, true, true, true, true, true, true, true, false, false] rfl rfl (any_of HT_.out (by kernel_rfl)) (fun _ _ _ h => h) (Or.inl ⟨by rfl, ?_⟩) ?_ ?_
                   rotate_left
                   ·intro w'
                    go_simp
                    with_reducible rfl
                   rotate_left
                   ·simp only [Act.put, List.setIfInBounds_toArray, List.set_cons_zero, List.set_cons_succ, i64_w, i32_w]
                    rfl
                   exact norm_ (by simp only [putAll, Act.put, List.setIfInBounds_toArray, List.set_cons_zero, List.set_cons_succ]) (hCont (.slice Ao124 t600.length co124, .slice Ao125 t604.length co125, v609, gb612) _ ⟨hHeld, (Rl_ (Kd.R_mono HO553.out (fun _ hk => ⟨hk.1.1.1.1, ⟨hk.1.1.1.2.1, ⟨hk.1.1.1.2.2.1, ⟨hk.1.1.1.2.2.2.1, ⟨hk.1.1.1.2.2.2.2.1, ⟨hk.1.1.1.2.2.2.2.2.1, ⟨hk.1.1.1.2.2.2.2.2.2, ⟨hk.1.1.2, ⟨hk.1.2, hk.2⟩⟩⟩⟩⟩⟩⟩⟩⟩))), (Rl_ (Kd.R_mono HO557.out (fun _ hk => ⟨hk.1.1.1.1, ⟨hk.1.1.1.2.1, ⟨hk.1.1.1.2.2.1, ⟨hk.1.1.1.2.2.2.1, ⟨hk.1.1.1.2.2.2.2.1, ⟨hk.1.1.1.2.2.2.2.2.1, ⟨hk.1.1.1.2.2.2.2.2.2, ⟨hk.1.1.2, ⟨hk.1.2, hk.2⟩⟩⟩⟩⟩⟩⟩⟩⟩))), (Rl_ (Kd.R_mono HO561.out (fun _ hk => ⟨hk.1.1.1.1, ⟨hk.1.1.1.2.1, ⟨hk.1.1.1.2.2.1, ⟨hk.1.1.1.2.2.2.1, ⟨hk.1.1.1.2.2.2.2.1, ⟨hk.1.1.1.2.2.2.2.2.1, ⟨hk.1.1.1.2.2.2.2.2.2, ⟨hk.1.1.2, ⟨hk.1.2, hk.2⟩⟩⟩⟩⟩⟩⟩⟩⟩))), (Rl_ (Kd.R_mono HO567.out (fun _ hk => ⟨hk.1.1.1.1, ⟨hk.1.1.1.2.1, ⟨hk.1.1.1.2.2.1, ⟨hk.1.1.1.2.2.2.1, ⟨hk.1.1.1.2.2.2.2.1, ⟨hk.1.1.1.2.2.2.2.2.1, ⟨hk.1.1.1.2.2.2.2.2.2, ⟨hk.1.1.2, ⟨hk.1.2, hk.2⟩⟩⟩⟩⟩⟩⟩⟩⟩))), (Rl_ (Kd.R_mono HO572.out (fun _ hk => ⟨hk.1.1.1.1, ⟨hk.1.1.1.2.1, ⟨hk.1.1.1.2.2.1, ⟨hk.1.1.1.2.2.2.1, ⟨hk.1.1.1.2.2.2.2.1, ⟨hk.1.1.1.2.2.2.2.2.1, ⟨hk.1.1.1.2.2.2.2.2.2, ⟨hk.1.1.2, ⟨hk.1.2, hk.2⟩⟩⟩⟩⟩⟩⟩⟩⟩))), (Rl_ (Kd.R_mono HO577.out (fun _ hk => ⟨hk.1.1.1.1, ⟨hk.1.1.1.2.1, ⟨hk.1.1.1.2.2.1, ⟨hk.1.1.1.2.2.2.1, ⟨hk.1.1.1.2.2.2.2.1, ⟨hk.1.1.1.2.2.2.2.2.1, ⟨hk.1.1.1.2.2.2.2.2.2, ⟨hk.1.1.2, ⟨hk.1.2, hk.2⟩⟩⟩⟩⟩⟩⟩⟩⟩))), (Rl_ (Kd.R_mono HO584.out (fun _ hk => ⟨hk.1.1.1.1, ⟨hk.1.1.1.2.1, ⟨hk.1.1.1.2.2.1, ⟨hk.1.1.1.2.2.2.1, ⟨hk.1.1.1.2.2.2.2.1, ⟨hk.1.1.1.2.2.2.2.2.1, ⟨hk.1.1.1.2.2.2.2.2.2, ⟨hk.1.1.2, ⟨hk.1.2, hk.2⟩⟩⟩⟩⟩⟩⟩⟩⟩))), (Rl_ (Kd.R_mono HO589.out (fun _ hk => ⟨hk.1.1.1.1, ⟨hk.1.1.1.2.1, ⟨hk.1.1.1.2.2.1, ⟨hk.1.1.1.2.2.2.1, ⟨hk.1.1.1.2.2.2.2.1, ⟨hk.1.1.1.2.2.2.2.2.1, ⟨hk.1.1.1.2.2.2.2.2.2, ⟨hk.1.1.2, ⟨hk.1.2, hk.2⟩⟩⟩⟩⟩⟩⟩⟩⟩))), (Rl_ (Kd.R_mono HO602.out (fun _ hk => ⟨hk.1.1.1.1.1.1.1.1.1.2, ⟨hk.1.1.1.1.1.1.1.1.2, ⟨hk.1.1.1.1.1.1.1.2, ⟨hk.1.1.1.1.1.1.2, ⟨hk.1.1.1.1.1.2, ⟨hk.1.1.1.1.2, ⟨hk.1.1.1.2, ⟨hk.1.1.2, ⟨hk.1.2, hk.2⟩⟩⟩⟩⟩⟩⟩⟩⟩))), (Rl_ (Kd.R_mono HO606.out (fun _ hk => ⟨hk.1.1.1.1.1.1.1.1.1.2, ⟨hk.1.1.1.1.1.1.1.1.2, ⟨hk.1.1.1.1.1.1.1.2, ⟨hk.1.1.1.1.1.1.2, ⟨hk.1.1.1.1.1.2, ⟨hk.1.1.1.1.2, ⟨hk.1.1.1.2, ⟨hk.1.1.2, ⟨hk.1.2, hk.2⟩⟩⟩⟩⟩⟩⟩⟩⟩))), (Rl_ (Kd.R_mono HO610.out (fun _ hk => ⟨hk.1.1.1.1.1.1.1.1.1.2, ⟨hk.1.1.1.1.1.1.1.1.2, ⟨hk.1.1.1.1.1.1.1.2, ⟨hk.1.1.1.1.1.1.2, ⟨hk.1.1.1.1.1.2, ⟨hk.1.1.1.1.2, ⟨hk.1.1.1.2, ⟨hk.1.1.2, ⟨hk.1.2, hk.2⟩⟩⟩⟩⟩⟩⟩⟩⟩))), (bl_ BK546), (bl_ BK547), (bl_ BK563), (bl_ BK568), (bl_ BK573), (bl_ BK579), (bl_ BK612), GW612.out, GE612.out, NB546_612.out, NB612_546.out, NB547_612.out, NB612_547.out, NB563_612.out, NB612_563.out, NB568_612.out, NB612_568.out, NB573_612.out, NB612_573.out, NB579_612.out, NB612_579.out, (Bl_ HB)⟩)
                 ·skip
                  refine box_step ?hg (N := 15) ?hd (cs := #[.int .i64 0, .slice none 0 0]) (t := 28) ?hr ?_; (case hd => rfl); (case hg => rfl); (case hr => first | (go_simp; done) | (go_simp; rfl))
                  intro gb612 hg w122 hbox hb
                  replace HO553 := Aside0.mk (Kd.R_below (Rl_ HO553.out) hb)
                  replace HO557 := Aside0.mk (Kd.R_below (Rl_ HO557.out) hb)
                  replace HO561 := Aside0.mk (Kd.R_below (Rl_ HO561.out) hb)
                  replace HO567 := Aside0.mk (Kd.R_below (Rl_ HO567.out) hb)
                  replace HO572 := Aside0.mk (Kd.R_below (Rl_ HO572.out) hb)
                  replace HO577 := Aside0.mk (Kd.R_below (Rl_ HO577.out) hb)
                  replace HO584 := Aside0.mk (Kd.R_below (Rl_ HO584.out) hb)
                  replace HO589 := Aside0.mk (Kd.R_below (Rl_ HO589.out) hb)
                  replace HO602 := Aside0.mk (Kd.R_below (Rl_ HO602.out) hb)
                  have BK612 := Aside0.mk (hbox)
                  have GW612 := Aside0.mk ((by rw [hg]; exact (below_size (Bl_ HB)) : w.heap.size ≤ gb612))
                  have GE612 := Aside0.mk ((by rw [hg]; exact (below_size (Bl_ HB)) : w.heap.size ≤ gb612))
                  replace HB := Aside0.mk (below_step (Bl_ HB) hb)
                  have NB546_612 := Aside0.mk ((by rw [hg]; exact Nat.ne_of_lt (blk_lt (g := gb546) (o := .cells #[.int .i64 a0_0, .slice A0_1 l0_1.length c0_1] 24 (0, 0)) (bl_ BK546)) : gb546 ≠ gb612))
                  have NB612_546 := Aside0.mk ((by rw [hg]; exact Nat.ne_of_gt (blk_lt (g := gb546) (o := .cells #[.int .i64 a0_0, .slice A0_1 l0_1.length c0_1] 24 (0, 0)) (bl_ BK546)) : gb612 ≠ gb546))
                  replace BK546 := blkB_ BK546 hb
                  have NB547_612 := Aside0.mk ((by rw [hg]; exact Nat.ne_of_lt (blk_lt (g := gb547) (o := .cells #[.int .i64 a1_0, .slice A1_1 l1_1.length c1_1] 24 (0, 0)) (bl_ BK547)) : gb547 ≠ gb612))
                  have NB612_547 := Aside0.mk ((by rw [hg]; exact Nat.ne_of_gt (blk_lt (g := gb547) (o := .cells #[.int .i64 a1_0, .slice A1_1 l1_1.length c1_1] 24 (0, 0)) (bl_ BK547)) : gb612 ≠ gb547))
                  replace BK547 := blkB_ BK547 hb
                  have NB563_612 := Aside0.mk ((by rw [hg]; exact Nat.ne_of_lt (blk_lt (g := gb563) (o := .cells #[.int .i64 t558, .slice Ao68 t559.length co68] 28 (0, 0)) (bl_ BK563)) : gb563 ≠ gb612))
                  have NB612_563 := Aside0.mk ((by rw [hg]; exact Nat.ne_of_gt (blk_lt (g := gb563) (o := .cells #[.int .i64 t558, .slice Ao68 t559.length co68] 28 (0, 0)) (bl_ BK563)) : gb612 ≠ gb563))
                  replace BK563 := blkB_ BK563 hb
                  have NB568_612 := Aside0.mk ((by rw [hg]; exact Nat.ne_of_lt (blk_lt (g := gb568) (o := .cells #[.int .i64 t564, .slice Ao78 t565.length co78] 28 (0, 0)) (bl_ BK568)) : gb568 ≠ gb612))
                  have NB612_568 := Aside0.mk ((by rw [hg]; exact Nat.ne_of_gt (blk_lt (g := gb568) (o := .cells #[.int .i64 t564, .slice Ao78 t565.length co78] 28 (0, 0)) (bl_ BK568)) : gb612 ≠ gb568))
                  replace BK568 := blkB_ BK568 hb
                  have NB573_612 := Aside0.mk ((by rw [hg]; exact Nat.ne_of_lt (blk_lt (g := gb573) (o := .cells #[.int .i64 t569, .slice Ao88 t570.length co88] 28 (0, 0)) (bl_ BK573)) : gb573 ≠ gb612))
                  have NB612_573 := Aside0.mk ((by rw [hg]; exact Nat.ne_of_gt (blk_lt (g := gb573) (o := .cells #[.int .i64 t569, .slice Ao88 t570.length co88] 28 (0, 0)) (bl_ BK573)) : gb612 ≠ gb573))
                  replace BK573 := blkB_ BK573 hb
                  have NB579_612 := Aside0.mk ((by rw [hg]; exact Nat.ne_of_lt (blk_lt (g := gb579) (o := .cells #[.int .i64 t574, .slice Ao98 t575.length co98] 28 (0, 0)) (bl_ BK579)) : gb579 ≠ gb612))
                  have NB612_579 := Aside0.mk ((by rw [hg]; exact Nat.ne_of_gt (blk_lt (g := gb579) (o := .cells #[.int .i64 t574, .slice Ao98 t575.length co98] 28 (0, 0)) (bl_ BK579)) : gb612 ≠ gb579))
                  replace BK579 := blkB_ BK579 hb
                  clear hb hbox hg
                  refine hK.out _ _ ⟨(blk_cell BK546.out 0).trans rfl, (blk_cell BK546.out 1).trans rfl, (blk_cell BK547.out 0).trans rfl, (blk_cell BK547.out 1).trans rfl⟩ (fun hHeld => ?_)
                  clear hK K
                  refine norm_ (a' := ?_) ?_ ?_
                  rotate_left
                  ·show Act.put _ (some 15) _ = _
                   simp only [Act.put, List.setIfInBounds_toArray, List.set_cons_zero, List.set_cons_succ, i64_w, i32_w]
                   rfl
                  refine one_ (i := 3) (N := some 98) #[true, true, true, true, false, false, false, false, true, false, false] rfl rfl (one_of HT_.out (by kernel_rfl)) (by decide) (fun K hK => ?_)
                  refine gs_ Try.func17 (by kernel_rfl) rfl #[.agg #[.int .i64 a1_0, .slice A1_1 l1_1.length c1_1]] (by rfl) rfl rfl ?_
                  with_reducible refine (laws_toLadder.calls k a1_0 _ _ l1_1 t603 t604 _ ?side1 ?side2 A44.out).mono ?_
                  (case side1 => exact Cl_ (Kd.C_below HR1_1.out HB.out))
                  (case side2 => exact HC1_1.out)
                  rintro e w123 ⟨v605, rfl, ho0, hb⟩
                  refine ⟨_, rfl, ?_⟩
                  have HO606 := Aside0.mk (Kd.R_lower (Kd.R_new' (Kd.R_new' (Kd.R_new' (Kd.R_new' (Kd.R_new' (Kd.R_new' (Kd.R_new' (Kd.R_new' (Kd.R_new' ho0 (Kd.R_lt (Rl_ HO553.out))) (Kd.R_lt (Rl_ HO557.out))) (Kd.R_lt (Rl_ HO561.out))) (Kd.R_lt (Rl_ HO567.out))) (Kd.R_lt (Rl_ HO572.out))) (Kd.R_lt (Rl_ HO577.out))) (Kd.R_lt (Rl_ HO584.out))) (Kd.R_lt (Rl_ HO589.out))) (Kd.R_lt (Rl_ HO602.out))) (below_size (Bl_ HB)))
                  replace HO553 := Aside0.mk (Kd.R_elder' (Rl_ HO553.out) (Kd.R_base ho0) hb)
                  replace HO557 := Aside0.mk (Kd.R_elder' (Rl_ HO557.out) (Kd.R_base ho0) hb)
                  replace HO561 := Aside0.mk (Kd.R_elder' (Rl_ HO561.out) (Kd.R_base ho0) hb)
                  replace HO567 := Aside0.mk (Kd.R_elder' (Rl_ HO567.out) (Kd.R_base ho0) hb)
                  replace HO572 := Aside0.mk (Kd.R_elder' (Rl_ HO572.out) (Kd.R_base ho0) hb)
                  replace HO577 := Aside0.mk (Kd.R_elder' (Rl_ HO577.out) (Kd.R_base ho0) hb)
                  replace HO584 := Aside0.mk (Kd.R_elder' (Rl_ HO584.out) (Kd.R_base ho0) hb)
                  replace HO589 := Aside0.mk (Kd.R_elder' (Rl_ HO589.out) (Kd.R_base ho0) hb)
                  replace HO602 := Aside0.mk (Kd.R_elder' (Rl_ HO602.out) (Kd.R_base ho0) hb)
                  replace BK546 := blkB_ BK546 hb
                  replace BK547 := blkB_ BK547 hb
                  replace BK563 := blkB_ BK563 hb
                  replace BK568 := blkB_ BK568 hb
                  replace BK573 := blkB_ BK573 hb
                  replace BK579 := blkB_ BK579 hb
                  replace BK612 := blkB_ BK612 hb
                  replace HB := Aside0.mk (below_step (Bl_ HB) hb)
                  (try clear hb); (try clear hb2); (try clear hk); (try clear hi); (try clear ho0)
                  obtain ⟨Ao124, co124, eo124⟩ := Kd.R_slice HO602.out
                  (first | subst eo124 | (injection eo124 with f1_ f2_ f3_; have f4_ := f1_.symm; have f5_ := f3_.symm; clear f1_ f2_ f3_; subst f4_; subst f5_))
                  obtain ⟨Ao125, co125, eo125⟩ := Kd.R_slice HO606.out
                  (first | subst eo125 | (injection eo125 with f1_ f2_ f3_; have f4_ := f1_.symm; have f5_ := f3_.symm; clear f1_ f2_ f3_; subst f4_; subst f5_))
                  refine hK.out _ _ ⟨(blk_cell BK546.out 0).trans rfl, (blk_cell BK546.out 1).trans rfl, (blk_cell BK547.out 0).trans rfl, (blk_cell BK547.out 1).trans rfl⟩ (fun hHeld => ?_)
                  clear hK K
                  refine norm_ (a' := ?_) ?_ ?_
                  rotate_left
                  ·show Act.put _ (some 98) _ = _
                   simp only [Act.put, List.setIfInBounds_toArray, List.set_cons_zero, List.set_cons_succ, i64_w, i32_w]
                   rfl
                  refine one_ (i := 4) (N := some 99) #[true, true, true, true, true, false, false, false, true, false, false] rfl rfl (one_of HT_.out (by kernel_rfl)) (by decide) (fun K hK => ?_)
                  refine gs_ Try.func37 (by kernel_rfl) rfl #[.agg #[.int .i64 t599, .slice Ao124 t600.length co124], .agg #[.int .i64 t603, .slice Ao125 t604.length co125]] (by rfl) rfl rfl ?_
                  with_reducible refine (impl_BesideLadders.calls k t599 _ _ t600 t603 _ _ t604 t607 t608 t611 _ ?side1 ?side2 ?side3 ?side4 A45.out).mono ?_
                  (case side1 => exact Cl_ (Kd.R_reads' HO602.out).2.2)
                  (case side2 => exact (Kd.R_reads' HO602.out).2.1)
                  (case side3 => exact Cl_ (Kd.R_reads' HO606.out).2.2)
                  (case side4 => exact (Kd.R_reads' HO606.out).2.1)
                  rintro e w126 ⟨v609, rfl, ho0, hb⟩
                  refine ⟨_, rfl, ?_⟩
                  have HO610 := Aside0.mk (Kd.R_lower (Kd.R_new' (Kd.R_new' (Kd.R_new' (Kd.R_new' (Kd.R_new' (Kd.R_new' (Kd.R_new' (Kd.R_new' (Kd.R_new' (Kd.R_new' ho0 (Kd.R_lt (Rl_ HO553.out))) (Kd.R_lt (Rl_ HO557.out))) (Kd.R_lt (Rl_ HO561.out))) (Kd.R_lt (Rl_ HO567.out))) (Kd.R_lt (Rl_ HO572.out))) (Kd.R_lt (Rl_ HO577.out))) (Kd.R_lt (Rl_ HO584.out))) (Kd.R_lt (Rl_ HO589.out))) (Kd.R_lt (Rl_ HO602.out))) (Kd.R_lt (Rl_ HO606.out))) (below_size (Bl_ HB)))
                  replace HO553 := Aside0.mk (Kd.R_elder' (Rl_ HO553.out) (Kd.R_base ho0) hb)
                  replace HO557 := Aside0.mk (Kd.R_elder' (Rl_ HO557.out) (Kd.R_base ho0) hb)
                  replace HO561 := Aside0.mk (Kd.R_elder' (Rl_ HO561.out) (Kd.R_base ho0) hb)
                  replace HO567 := Aside0.mk (Kd.R_elder' (Rl_ HO567.out) (Kd.R_base ho0) hb)
                  replace HO572 := Aside0.mk (Kd.R_elder' (Rl_ HO572.out) (Kd.R_base ho0) hb)
                  replace HO577 := Aside0.mk (Kd.R_elder' (Rl_ HO577.out) (Kd.R_base ho0) hb)
                  replace HO584 := Aside0.mk (Kd.R_elder' (Rl_ HO584.out) (Kd.R_base ho0) hb)
                  replace HO589 := Aside0.mk (Kd.R_elder' (Rl_ HO589.out) (Kd.R_base ho0) hb)
                  replace HO602 := Aside0.mk (Kd.R_elder' (Rl_ HO602.out) (Kd.R_base ho0) hb)
                  replace HO606 := Aside0.mk (Kd.R_elder' (Rl_ HO606.out) (Kd.R_base ho0) hb)
                  replace BK546 := blkB_ BK546 hb
                  replace BK547 := blkB_ BK547 hb
                  replace BK563 := blkB_ BK563 hb
                  replace BK568 := blkB_ BK568 hb
                  replace BK573 := blkB_ BK573 hb
                  replace BK579 := blkB_ BK579 hb
                  replace BK612 := blkB_ BK612 hb
                  replace HB := Aside0.mk (below_step (Bl_ HB) hb)
                  (try clear hb); (try clear hb2); (try clear hk); (try clear hi); (try clear ho0)
                  refine hK.out _ _ ⟨(blk_cell BK546.out 0).trans rfl, (blk_cell BK546.out 1).trans rfl, (blk_cell BK547.out 0).trans rfl, (blk_cell BK547.out 1).trans rfl⟩ (fun hHeld => ?_)
                  clear hK K
                  refine norm_ (a' := ?_) ?_ ?_
                  rotate_left
                  ·show Act.put _ (some 99) _ = _
                   simp only [Act.put, List.setIfInBounds_toArray, List.set_cons_zero, List.set_cons_succ, i64_w, i32_w]
                   rfl
                  refine pure_ (i := 5) (N := some 94) (v := ?_) (a' := ?_) #[true, true, true, true, true, true, false, false, true, false, false] rfl rfl (any_of HT_.out (by kernel_rfl)) (fun _ _ _ h => h) (Or.inl ⟨by rfl, ?_⟩) ?_ ?_
                  rotate_left
                  ·intro w'
                   go_simp
                   with_reducible rfl
                  rotate_left
                  ·simp only [Act.put, List.setIfInBounds_toArray, List.set_cons_zero, List.set_cons_succ, i64_w, i32_w]
                   rfl
                  refine pure_ (i := 6) (N := some 100) (v := ?_) (a' := ?_) #[true, true, true, true, true, true, true, false, true, false, false] rfl rfl (any_of HT_.out (by kernel_rfl)) (fun _ _ _ h => h) (Or.inl ⟨by rfl, ?_⟩) ?_ ?_
                  rotate_left
                  ·intro w'
                   go_simp
                   with_reducible rfl
                  rotate_left
                  ·simp only [Act.put, List.setIfInBounds_toArray, List.set_cons_zero, List.set_cons_succ, i64_w, i32_w]
                   rfl
                  refine pure_ (i := 7) (N := some 101) (v := ?_) (a' := ?_) #[true, true, true, true, true, true, true, true, true, false, false] rfl rfl (any_of HT_.out (by kernel_rfl)) (fun _ _ _ h => h) (Or.inl ⟨by rfl, ?_⟩) ?_ ?_
                  rotate_left
                  ·intro w'
                   go_simp
                   with_reducible rfl
                  rotate_left
                  ·simp only [Act.put, List.setIfInBounds_toArray, List.set_cons_zero, List.set_cons_succ, i64_w, i32_w]
                   rfl
                  exact norm_ (by simp only [putAll, Act.put, List.setIfInBounds_toArray, List.set_cons_zero, List.set_cons_succ]) (hCont (.slice Ao124 t600.length co124, .slice Ao125 t604.length co125, v609, gb612) _ ⟨hHeld, (Rl_ (Kd.R_mono HO553.out (fun _ hk => ⟨hk.1.1.1.1, ⟨hk.1.1.1.2.1, ⟨hk.1.1.1.2.2.1, ⟨hk.1.1.1.2.2.2.1, ⟨hk.1.1.1.2.2.2.2.1, ⟨hk.1.1.1.2.2.2.2.2.1, ⟨hk.1.1.1.2.2.2.2.2.2, ⟨hk.1.1.2, ⟨hk.1.2, hk.2⟩⟩⟩⟩⟩⟩⟩⟩⟩))), (Rl_ (Kd.R_mono HO557.out (fun _ hk => ⟨hk.1.1.1.1, ⟨hk.1.1.1.2.1, ⟨hk.1.1.1.2.2.1, ⟨hk.1.1.1.2.2.2.1, ⟨hk.1.1.1.2.2.2.2.1, ⟨hk.1.1.1.2.2.2.2.2.1, ⟨hk.1.1.1.2.2.2.2.2.2, ⟨hk.1.1.2, ⟨hk.1.2, hk.2⟩⟩⟩⟩⟩⟩⟩⟩⟩))), (Rl_ (Kd.R_mono HO561.out (fun _ hk => ⟨hk.1.1.1.1, ⟨hk.1.1.1.2.1, ⟨hk.1.1.1.2.2.1, ⟨hk.1.1.1.2.2.2.1, ⟨hk.1.1.1.2.2.2.2.1, ⟨hk.1.1.1.2.2.2.2.2.1, ⟨hk.1.1.1.2.2.2.2.2.2, ⟨hk.1.1.2, ⟨hk.1.2, hk.2⟩⟩⟩⟩⟩⟩⟩⟩⟩))), (Rl_ (Kd.R_mono HO567.out (fun _ hk => ⟨hk.1.1.1.1, ⟨hk.1.1.1.2.1, ⟨hk.1.1.1.2.2.1, ⟨hk.1.1.1.2.2.2.1, ⟨hk.1.1.1.2.2.2.2.1, ⟨hk.1.1.1.2.2.2.2.2.1, ⟨hk.1.1.1.2.2.2.2.2.2, ⟨hk.1.1.2, ⟨hk.1.2, hk.2⟩⟩⟩⟩⟩⟩⟩⟩⟩))), (Rl_ (Kd.R_mono HO572.out (fun _ hk => ⟨hk.1.1.1.1, ⟨hk.1.1.1.2.1, ⟨hk.1.1.1.2.2.1, ⟨hk.1.1.1.2.2.2.1, ⟨hk.1.1.1.2.2.2.2.1, ⟨hk.1.1.1.2.2.2.2.2.1, ⟨hk.1.1.1.2.2.2.2.2.2, ⟨hk.1.1.2, ⟨hk.1.2, hk.2⟩⟩⟩⟩⟩⟩⟩⟩⟩))), (Rl_ (Kd.R_mono HO577.out (fun _ hk => ⟨hk.1.1.1.1, ⟨hk.1.1.1.2.1, ⟨hk.1.1.1.2.2.1, ⟨hk.1.1.1.2.2.2.1, ⟨hk.1.1.1.2.2.2.2.1, ⟨hk.1.1.1.2.2.2.2.2.1, ⟨hk.1.1.1.2.2.2.2.2.2, ⟨hk.1.1.2, ⟨hk.1.2, hk.2⟩⟩⟩⟩⟩⟩⟩⟩⟩))), (Rl_ (Kd.R_mono HO584.out (fun _ hk => ⟨hk.1.1.1.1, ⟨hk.1.1.1.2.1, ⟨hk.1.1.1.2.2.1, ⟨hk.1.1.1.2.2.2.1, ⟨hk.1.1.1.2.2.2.2.1, ⟨hk.1.1.1.2.2.2.2.2.1, ⟨hk.1.1.1.2.2.2.2.2.2, ⟨hk.1.1.2, ⟨hk.1.2, hk.2⟩⟩⟩⟩⟩⟩⟩⟩⟩))), (Rl_ (Kd.R_mono HO589.out (fun _ hk => ⟨hk.1.1.1.1, ⟨hk.1.1.1.2.1, ⟨hk.1.1.1.2.2.1, ⟨hk.1.1.1.2.2.2.1, ⟨hk.1.1.1.2.2.2.2.1, ⟨hk.1.1.1.2.2.2.2.2.1, ⟨hk.1.1.1.2.2.2.2.2.2, ⟨hk.1.1.2, ⟨hk.1.2, hk.2⟩⟩⟩⟩⟩⟩⟩⟩⟩))), (Rl_ (Kd.R_mono HO602.out (fun _ hk => ⟨hk.1.1.1.1.1.1.1.1.1.2, ⟨hk.1.1.1.1.1.1.1.1.2, ⟨hk.1.1.1.1.1.1.1.2, ⟨hk.1.1.1.1.1.1.2, ⟨hk.1.1.1.1.1.2, ⟨hk.1.1.1.1.2, ⟨hk.1.1.1.2, ⟨hk.1.1.2, ⟨hk.1.2, hk.2⟩⟩⟩⟩⟩⟩⟩⟩⟩))), (Rl_ (Kd.R_mono HO606.out (fun _ hk => ⟨hk.1.1.1.1.1.1.1.1.1.2, ⟨hk.1.1.1.1.1.1.1.1.2, ⟨hk.1.1.1.1.1.1.1.2, ⟨hk.1.1.1.1.1.1.2, ⟨hk.1.1.1.1.1.2, ⟨hk.1.1.1.1.2, ⟨hk.1.1.1.2, ⟨hk.1.1.2, ⟨hk.1.2, hk.2⟩⟩⟩⟩⟩⟩⟩⟩⟩))), (Rl_ (Kd.R_mono HO610.out (fun _ hk => ⟨hk.1.1.1.1.1.1.1.1.1.2, ⟨hk.1.1.1.1.1.1.1.1.2, ⟨hk.1.1.1.1.1.1.1.2, ⟨hk.1.1.1.1.1.1.2, ⟨hk.1.1.1.1.1.2, ⟨hk.1.1.1.1.2, ⟨hk.1.1.1.2, ⟨hk.1.1.2, ⟨hk.1.2, hk.2⟩⟩⟩⟩⟩⟩⟩⟩⟩))), (bl_ BK546), (bl_ BK547), (bl_ BK563), (bl_ BK568), (bl_ BK573), (bl_ BK579), (bl_ BK612), GW612.out, GE612.out, NB546_612.out, NB612_546.out, NB547_612.out, NB612_547.out, NB563_612.out, NB612_563.out, NB568_612.out, NB612_568.out, NB573_612.out, NB612_573.out, NB579_612.out, NB612_579.out, (Bl_ HB)⟩)
                ·skip
                 refine box_step ?hg (N := 15) ?hd (cs := #[.int .i64 0, .slice none 0 0]) (t := 28) ?hr ?_; (case hd => rfl); (case hg => rfl); (case hr => first | (go_simp; done) | (go_simp; rfl))
                 intro gb612 hg w121 hbox hb
                 replace HO553 := Aside0.mk (Kd.R_below (Rl_ HO553.out) hb)
                 replace HO557 := Aside0.mk (Kd.R_below (Rl_ HO557.out) hb)
                 replace HO561 := Aside0.mk (Kd.R_below (Rl_ HO561.out) hb)
                 replace HO567 := Aside0.mk (Kd.R_below (Rl_ HO567.out) hb)
                 replace HO572 := Aside0.mk (Kd.R_below (Rl_ HO572.out) hb)
                 replace HO577 := Aside0.mk (Kd.R_below (Rl_ HO577.out) hb)
                 replace HO584 := Aside0.mk (Kd.R_below (Rl_ HO584.out) hb)
                 replace HO589 := Aside0.mk (Kd.R_below (Rl_ HO589.out) hb)
                 have BK612 := Aside0.mk (hbox)
                 have GW612 := Aside0.mk ((by rw [hg]; exact (below_size (Bl_ HB)) : w.heap.size ≤ gb612))
                 have GE612 := Aside0.mk ((by rw [hg]; exact (below_size (Bl_ HB)) : w.heap.size ≤ gb612))
                 replace HB := Aside0.mk (below_step (Bl_ HB) hb)
                 have NB546_612 := Aside0.mk ((by rw [hg]; exact Nat.ne_of_lt (blk_lt (g := gb546) (o := .cells #[.int .i64 a0_0, .slice A0_1 l0_1.length c0_1] 24 (0, 0)) (bl_ BK546)) : gb546 ≠ gb612))
                 have NB612_546 := Aside0.mk ((by rw [hg]; exact Nat.ne_of_gt (blk_lt (g := gb546) (o := .cells #[.int .i64 a0_0, .slice A0_1 l0_1.length c0_1] 24 (0, 0)) (bl_ BK546)) : gb612 ≠ gb546))
                 replace BK546 := blkB_ BK546 hb
                 have NB547_612 := Aside0.mk ((by rw [hg]; exact Nat.ne_of_lt (blk_lt (g := gb547) (o := .cells #[.int .i64 a1_0, .slice A1_1 l1_1.length c1_1] 24 (0, 0)) (bl_ BK547)) : gb547 ≠ gb612))
                 have NB612_547 := Aside0.mk ((by rw [hg]; exact Nat.ne_of_gt (blk_lt (g := gb547) (o := .cells #[.int .i64 a1_0, .slice A1_1 l1_1.length c1_1] 24 (0, 0)) (bl_ BK547)) : gb612 ≠ gb547))
                 replace BK547 := blkB_ BK547 hb
                 have NB563_612 := Aside0.mk ((by rw [hg]; exact Nat.ne_of_lt (blk_lt (g := gb563) (o := .cells #[.int .i64 t558, .slice Ao68 t559.length co68] 28 (0, 0)) (bl_ BK563)) : gb563 ≠ gb612))
                 have NB612_563 := Aside0.mk ((by rw [hg]; exact Nat.ne_of_gt (blk_lt (g := gb563) (o := .cells #[.int .i64 t558, .slice Ao68 t559.length co68] 28 (0, 0)) (bl_ BK563)) : gb612 ≠ gb563))
                 replace BK563 := blkB_ BK563 hb
                 have NB568_612 := Aside0.mk ((by rw [hg]; exact Nat.ne_of_lt (blk_lt (g := gb568) (o := .cells #[.int .i64 t564, .slice Ao78 t565.length co78] 28 (0, 0)) (bl_ BK568)) : gb568 ≠ gb612))
                 have NB612_568 := Aside0.mk ((by rw [hg]; exact Nat.ne_of_gt (blk_lt (g := gb568) (o := .cells #[.int .i64 t564, .slice Ao78 t565.length co78] 28 (0, 0)) (bl_ BK568)) : gb612 ≠ gb568))
                 replace BK568 := blkB_ BK568 hb
                 have NB573_612 := Aside0.mk ((by rw [hg]; exact Nat.ne_of_lt (blk_lt (g := gb573) (o := .cells #[.int .i64 t569, .slice Ao88 t570.length co88] 28 (0, 0)) (bl_ BK573)) : gb573 ≠ gb612))
                 have NB612_573 := Aside0.mk ((by rw [hg]; exact Nat.ne_of_gt (blk_lt (g := gb573) (o := .cells #[.int .i64 t569, .slice Ao88 t570.length co88] 28 (0, 0)) (bl_ BK573)) : gb612 ≠ gb573))
                 replace BK573 := blkB_ BK573 hb
                 have NB579_612 := Aside0.mk ((by rw [hg]; exact Nat.ne_of_lt (blk_lt (g := gb579) (o := .cells #[.int .i64 t574, .slice Ao98 t575.length co98] 28 (0, 0)) (bl_ BK579)) : gb579 ≠ gb612))
                 have NB612_579 := Aside0.mk ((by rw [hg]; exact Nat.ne_of_gt (blk_lt (g := gb579) (o := .cells #[.int .i64 t574, .slice Ao98 t575.length co98] 28 (0, 0)) (bl_ BK579)) : gb612 ≠ gb579))
                 replace BK579 := blkB_ BK579 hb
                 clear hb hbox hg
                 refine hK.out _ _ ⟨(blk_cell BK546.out 0).trans rfl, (blk_cell BK546.out 1).trans rfl, (blk_cell BK547.out 0).trans rfl, (blk_cell BK547.out 1).trans rfl⟩ (fun hHeld => ?_)
                 clear hK K
                 refine norm_ (a' := ?_) ?_ ?_
                 rotate_left
                 ·show Act.put _ (some 15) _ = _
                  simp only [Act.put, List.setIfInBounds_toArray, List.set_cons_zero, List.set_cons_succ, i64_w, i32_w]
                  rfl
                 refine one_ (i := 1) (N := some 96) #[true, true, true, false, false, false, false, false, true, false, false] rfl rfl (one_of HT_.out (by kernel_rfl)) (by decide) (fun K hK => ?_)
                 refine gs_ Try.func17 (by kernel_rfl) rfl #[.agg #[.int .i64 a0_0, .slice A0_1 l0_1.length c0_1]] (by rfl) rfl rfl ?_
                 with_reducible refine (laws_toLadder.calls k a0_0 _ _ l0_1 t599 t600 _ ?side1 ?side2 A43.out).mono ?_
                 (case side1 => exact Cl_ (Kd.C_below HR0_1.out HB.out))
                 (case side2 => exact HC0_1.out)
                 rintro e w122 ⟨v601, rfl, ho0, hb⟩
                 refine ⟨_, rfl, ?_⟩
                 have HO602 := Aside0.mk (Kd.R_lower (Kd.R_new' (Kd.R_new' (Kd.R_new' (Kd.R_new' (Kd.R_new' (Kd.R_new' (Kd.R_new' (Kd.R_new' ho0 (Kd.R_lt (Rl_ HO553.out))) (Kd.R_lt (Rl_ HO557.out))) (Kd.R_lt (Rl_ HO561.out))) (Kd.R_lt (Rl_ HO567.out))) (Kd.R_lt (Rl_ HO572.out))) (Kd.R_lt (Rl_ HO577.out))) (Kd.R_lt (Rl_ HO584.out))) (Kd.R_lt (Rl_ HO589.out))) (below_size (Bl_ HB)))
                 replace HO553 := Aside0.mk (Kd.R_elder' (Rl_ HO553.out) (Kd.R_base ho0) hb)
                 replace HO557 := Aside0.mk (Kd.R_elder' (Rl_ HO557.out) (Kd.R_base ho0) hb)
                 replace HO561 := Aside0.mk (Kd.R_elder' (Rl_ HO561.out) (Kd.R_base ho0) hb)
                 replace HO567 := Aside0.mk (Kd.R_elder' (Rl_ HO567.out) (Kd.R_base ho0) hb)
                 replace HO572 := Aside0.mk (Kd.R_elder' (Rl_ HO572.out) (Kd.R_base ho0) hb)
                 replace HO577 := Aside0.mk (Kd.R_elder' (Rl_ HO577.out) (Kd.R_base ho0) hb)
                 replace HO584 := Aside0.mk (Kd.R_elder' (Rl_ HO584.out) (Kd.R_base ho0) hb)
                 replace HO589 := Aside0.mk (Kd.R_elder' (Rl_ HO589.out) (Kd.R_base ho0) hb)
                 replace BK546 := blkB_ BK546 hb
                 replace BK547 := blkB_ BK547 hb
                 replace BK563 := blkB_ BK563 hb
                 replace BK568 := blkB_ BK568 hb
                 replace BK573 := blkB_ BK573 hb
                 replace BK579 := blkB_ BK579 hb
                 replace BK612 := blkB_ BK612 hb
                 replace HB := Aside0.mk (below_step (Bl_ HB) hb)
                 (try clear hb); (try clear hb2); (try clear hk); (try clear hi); (try clear ho0)
                 refine hK.out _ _ ⟨(blk_cell BK546.out 0).trans rfl, (blk_cell BK546.out 1).trans rfl, (blk_cell BK547.out 0).trans rfl, (blk_cell BK547.out 1).trans rfl⟩ (fun hHeld => ?_)
                 clear hK K
                 refine norm_ (a' := ?_) ?_ ?_
                 rotate_left
                 ·show Act.put _ (some 96) _ = _
                  simp only [Act.put, List.setIfInBounds_toArray, List.set_cons_zero, List.set_cons_succ, i64_w, i32_w]
                  rfl
                 refine one_ (i := 3) (N := some 98) #[true, true, true, true, false, false, false, false, true, false, false] rfl rfl (one_of HT_.out (by kernel_rfl)) (by decide) (fun K hK => ?_)
                 refine gs_ Try.func17 (by kernel_rfl) rfl #[.agg #[.int .i64 a1_0, .slice A1_1 l1_1.length c1_1]] (by rfl) rfl rfl ?_
                 with_reducible refine (laws_toLadder.calls k a1_0 _ _ l1_1 t603 t604 _ ?side1 ?side2 A44.out).mono ?_
                 (case side1 => exact Cl_ (Kd.C_below HR1_1.out HB.out))
                 (case side2 => exact HC1_1.out)
                 rintro e w123 ⟨v605, rfl, ho0, hb⟩
                 refine ⟨_, rfl, ?_⟩
                 have HO606 := Aside0.mk (Kd.R_lower (Kd.R_new' (Kd.R_new' (Kd.R_new' (Kd.R_new' (Kd.R_new' (Kd.R_new' (Kd.R_new' (Kd.R_new' (Kd.R_new' ho0 (Kd.R_lt (Rl_ HO553.out))) (Kd.R_lt (Rl_ HO557.out))) (Kd.R_lt (Rl_ HO561.out))) (Kd.R_lt (Rl_ HO567.out))) (Kd.R_lt (Rl_ HO572.out))) (Kd.R_lt (Rl_ HO577.out))) (Kd.R_lt (Rl_ HO584.out))) (Kd.R_lt (Rl_ HO589.out))) (Kd.R_lt (Rl_ HO602.out))) (below_size (Bl_ HB)))
                 replace HO553 := Aside0.mk (Kd.R_elder' (Rl_ HO553.out) (Kd.R_base ho0) hb)
                 replace HO557 := Aside0.mk (Kd.R_elder' (Rl_ HO557.out) (Kd.R_base ho0) hb)
                 replace HO561 := Aside0.mk (Kd.R_elder' (Rl_ HO561.out) (Kd.R_base ho0) hb)
                 replace HO567 := Aside0.mk (Kd.R_elder' (Rl_ HO567.out) (Kd.R_base ho0) hb)
                 replace HO572 := Aside0.mk (Kd.R_elder' (Rl_ HO572.out) (Kd.R_base ho0) hb)
                 replace HO577 := Aside0.mk (Kd.R_elder' (Rl_ HO577.out) (Kd.R_base ho0) hb)
                 replace HO584 := Aside0.mk (Kd.R_elder' (Rl_ HO584.out) (Kd.R_base ho0) hb)
                 replace HO589 := Aside0.mk (Kd.R_elder' (Rl_ HO589.out) (Kd.R_base ho0) hb)
                 replace HO602 := Aside0.mk (Kd.R_elder' (Rl_ HO602.out) (Kd.R_base ho0) hb)
                 replace BK546 := blkB_ BK546 hb
                 replace BK547 := blkB_ BK547 hb
                 replace BK563 := blkB_ BK563 hb
                 replace BK568 := blkB_ BK568 hb
                 replace BK573 := blkB_ BK573 hb
                 replace BK579 := blkB_ BK579 hb
                 replace BK612 := blkB_ BK612 hb
                 replace HB := Aside0.mk (below_step (Bl_ HB) hb)
                 (try clear hb); (try clear hb2); (try clear hk); (try clear hi); (try clear ho0)
                 obtain ⟨Ao124, co124, eo124⟩ := Kd.R_slice HO602.out
                 (first | subst eo124 | (injection eo124 with f1_ f2_ f3_; have f4_ := f1_.symm; have f5_ := f3_.symm; clear f1_ f2_ f3_; subst f4_; subst f5_))
                 obtain ⟨Ao125, co125, eo125⟩ := Kd.R_slice HO606.out
                 (first | subst eo125 | (injection eo125 with f1_ f2_ f3_; have f4_ := f1_.symm; have f5_ := f3_.symm; clear f1_ f2_ f3_; subst f4_; subst f5_))
                 refine hK.out _ _ ⟨(blk_cell BK546.out 0).trans rfl, (blk_cell BK546.out 1).trans rfl, (blk_cell BK547.out 0).trans rfl, (blk_cell BK547.out 1).trans rfl⟩ (fun hHeld => ?_)
                 clear hK K
                 refine norm_ (a' := ?_) ?_ ?_
                 rotate_left
                 ·show Act.put _ (some 98) _ = _
                  simp only [Act.put, List.setIfInBounds_toArray, List.set_cons_zero, List.set_cons_succ, i64_w, i32_w]
                  rfl
                 refine one_ (i := 4) (N := some 99) #[true, true, true, true, true, false, false, false, true, false, false] rfl rfl (one_of HT_.out (by kernel_rfl)) (by decide) (fun K hK => ?_)
                 refine gs_ Try.func37 (by kernel_rfl) rfl #[.agg #[.int .i64 t599, .slice Ao124 t600.length co124], .agg #[.int .i64 t603, .slice Ao125 t604.length co125]] (by rfl) rfl rfl ?_
                 with_reducible refine (impl_BesideLadders.calls k t599 _ _ t600 t603 _ _ t604 t607 t608 t611 _ ?side1 ?side2 ?side3 ?side4 A45.out).mono ?_
                 (case side1 => exact Cl_ (Kd.R_reads' HO602.out).2.2)
                 (case side2 => exact (Kd.R_reads' HO602.out).2.1)
                 (case side3 => exact Cl_ (Kd.R_reads' HO606.out).2.2)
                 (case side4 => exact (Kd.R_reads' HO606.out).2.1)
                 rintro e w126 ⟨v609, rfl, ho0, hb⟩
                 refine ⟨_, rfl, ?_⟩
                 have HO610 := Aside0.mk (Kd.R_lower (Kd.R_new' (Kd.R_new' (Kd.R_new' (Kd.R_new' (Kd.R_new' (Kd.R_new' (Kd.R_new' (Kd.R_new' (Kd.R_new' (Kd.R_new' ho0 (Kd.R_lt (Rl_ HO553.out))) (Kd.R_lt (Rl_ HO557.out))) (Kd.R_lt (Rl_ HO561.out))) (Kd.R_lt (Rl_ HO567.out))) (Kd.R_lt (Rl_ HO572.out))) (Kd.R_lt (Rl_ HO577.out))) (Kd.R_lt (Rl_ HO584.out))) (Kd.R_lt (Rl_ HO589.out))) (Kd.R_lt (Rl_ HO602.out))) (Kd.R_lt (Rl_ HO606.out))) (below_size (Bl_ HB)))
                 replace HO553 := Aside0.mk (Kd.R_elder' (Rl_ HO553.out) (Kd.R_base ho0) hb)
                 replace HO557 := Aside0.mk (Kd.R_elder' (Rl_ HO557.out) (Kd.R_base ho0) hb)
                 replace HO561 := Aside0.mk (Kd.R_elder' (Rl_ HO561.out) (Kd.R_base ho0) hb)
                 replace HO567 := Aside0.mk (Kd.R_elder' (Rl_ HO567.out) (Kd.R_base ho0) hb)
                 replace HO572 := Aside0.mk (Kd.R_elder' (Rl_ HO572.out) (Kd.R_base ho0) hb)
                 replace HO577 := Aside0.mk (Kd.R_elder' (Rl_ HO577.out) (Kd.R_base ho0) hb)
                 replace HO584 := Aside0.mk (Kd.R_elder' (Rl_ HO584.out) (Kd.R_base ho0) hb)
                 replace HO589 := Aside0.mk (Kd.R_elder' (Rl_ HO589.out) (Kd.R_base ho0) hb)
                 replace HO602 := Aside0.mk (Kd.R_elder' (Rl_ HO602.out) (Kd.R_base ho0) hb)
                 replace HO606 := Aside0.mk (Kd.R_elder' (Rl_ HO606.out) (Kd.R_base ho0) hb)
                 replace BK546 := blkB_ BK546 hb
                 replace BK547 := blkB_ BK547 hb
                 replace BK563 := blkB_ BK563 hb
                 replace BK568 := blkB_ BK568 hb
                 replace BK573 := blkB_ BK573 hb
                 replace BK579 := blkB_ BK579 hb
                 replace BK612 := blkB_ BK612 hb
                 replace HB := Aside0.mk (below_step (Bl_ HB) hb)
                 (try clear hb); (try clear hb2); (try clear hk); (try clear hi); (try clear ho0)
                 refine hK.out _ _ ⟨(blk_cell BK546.out 0).trans rfl, (blk_cell BK546.out 1).trans rfl, (blk_cell BK547.out 0).trans rfl, (blk_cell BK547.out 1).trans rfl⟩ (fun hHeld => ?_)
                 clear hK K
                 refine norm_ (a' := ?_) ?_ ?_
                 rotate_left
                 ·show Act.put _ (some 99) _ = _
                  simp only [Act.put, List.setIfInBounds_toArray, List.set_cons_zero, List.set_cons_succ, i64_w, i32_w]
                  rfl
                 refine pure_ (i := 5) (N := some 94) (v := ?_) (a' := ?_) #[true, true, true, true, true, true, false, false, true, false, false] rfl rfl (any_of HT_.out (by kernel_rfl)) (fun _ _ _ h => h) (Or.inl ⟨by rfl, ?_⟩) ?_ ?_
                 rotate_left
                 ·intro w'
                  go_simp
                  with_reducible rfl
                 rotate_left
                 ·simp only [Act.put, List.setIfInBounds_toArray, List.set_cons_zero, List.set_cons_succ, i64_w, i32_w]
                  rfl
                 refine pure_ (i := 6) (N := some 100) (v := ?_) (a' := ?_) #[true, true, true, true, true, true, true, false, true, false, false] rfl rfl (any_of HT_.out (by kernel_rfl)) (fun _ _ _ h => h) (Or.inl ⟨by rfl, ?_⟩) ?_ ?_
                 rotate_left
                 ·intro w'
                  go_simp
                  with_reducible rfl
                 rotate_left
                 ·simp only [Act.put, List.setIfInBounds_toArray, List.set_cons_zero, List.set_cons_succ, i64_w, i32_w]
                  rfl
                 refine pure_ (i := 7) (N := some 101) (v := ?_) (a' := ?_) #[true, true, true, true, true, true, true, true, true, false, false] rfl rfl (any_of HT_.out (by kernel_rfl)) (fun _ _ _ h => h) (Or.inl ⟨by rfl, ?_⟩) ?_ ?_
                 rotate_left
                 ·intro w'
                  go_simp
                  with_reducible rfl
                 rotate_left
                 ·simp only [Act.put, List.setIfInBounds_toArray, List.set_cons_zero, List.set_cons_succ, i64_w, i32_w]
                  rfl
                 exact norm_ (by simp only [putAll, Act.put, List.setIfInBounds_toArray, List.set_cons_zero, List.set_cons_succ]) (hCont (.slice Ao124 t600.length co124, .slice Ao125 t604.length co125, v609, gb612) _ ⟨hHeld, (Rl_ (Kd.R_mono HO553.out (fun _ hk => ⟨hk.1.1.1.1, ⟨hk.1.1.1.2.1, ⟨hk.1.1.1.2.2.1, ⟨hk.1.1.1.2.2.2.1, ⟨hk.1.1.1.2.2.2.2.1, ⟨hk.1.1.1.2.2.2.2.2.1, ⟨hk.1.1.1.2.2.2.2.2.2, ⟨hk.1.1.2, ⟨hk.1.2, hk.2⟩⟩⟩⟩⟩⟩⟩⟩⟩))), (Rl_ (Kd.R_mono HO557.out (fun _ hk => ⟨hk.1.1.1.1, ⟨hk.1.1.1.2.1, ⟨hk.1.1.1.2.2.1, ⟨hk.1.1.1.2.2.2.1, ⟨hk.1.1.1.2.2.2.2.1, ⟨hk.1.1.1.2.2.2.2.2.1, ⟨hk.1.1.1.2.2.2.2.2.2, ⟨hk.1.1.2, ⟨hk.1.2, hk.2⟩⟩⟩⟩⟩⟩⟩⟩⟩))), (Rl_ (Kd.R_mono HO561.out (fun _ hk => ⟨hk.1.1.1.1, ⟨hk.1.1.1.2.1, ⟨hk.1.1.1.2.2.1, ⟨hk.1.1.1.2.2.2.1, ⟨hk.1.1.1.2.2.2.2.1, ⟨hk.1.1.1.2.2.2.2.2.1, ⟨hk.1.1.1.2.2.2.2.2.2, ⟨hk.1.1.2, ⟨hk.1.2, hk.2⟩⟩⟩⟩⟩⟩⟩⟩⟩))), (Rl_ (Kd.R_mono HO567.out (fun _ hk => ⟨hk.1.1.1.1, ⟨hk.1.1.1.2.1, ⟨hk.1.1.1.2.2.1, ⟨hk.1.1.1.2.2.2.1, ⟨hk.1.1.1.2.2.2.2.1, ⟨hk.1.1.1.2.2.2.2.2.1, ⟨hk.1.1.1.2.2.2.2.2.2, ⟨hk.1.1.2, ⟨hk.1.2, hk.2⟩⟩⟩⟩⟩⟩⟩⟩⟩))), (Rl_ (Kd.R_mono HO572.out (fun _ hk => ⟨hk.1.1.1.1, ⟨hk.1.1.1.2.1, ⟨hk.1.1.1.2.2.1, ⟨hk.1.1.1.2.2.2.1, ⟨hk.1.1.1.2.2.2.2.1, ⟨hk.1.1.1.2.2.2.2.2.1, ⟨hk.1.1.1.2.2.2.2.2.2, ⟨hk.1.1.2, ⟨hk.1.2, hk.2⟩⟩⟩⟩⟩⟩⟩⟩⟩))), (Rl_ (Kd.R_mono HO577.out (fun _ hk => ⟨hk.1.1.1.1, ⟨hk.1.1.1.2.1, ⟨hk.1.1.1.2.2.1, ⟨hk.1.1.1.2.2.2.1, ⟨hk.1.1.1.2.2.2.2.1, ⟨hk.1.1.1.2.2.2.2.2.1, ⟨hk.1.1.1.2.2.2.2.2.2, ⟨hk.1.1.2, ⟨hk.1.2, hk.2⟩⟩⟩⟩⟩⟩⟩⟩⟩))), (Rl_ (Kd.R_mono HO584.out (fun _ hk => ⟨hk.1.1.1.1, ⟨hk.1.1.1.2.1, ⟨hk.1.1.1.2.2.1, ⟨hk.1.1.1.2.2.2.1, ⟨hk.1.1.1.2.2.2.2.1, ⟨hk.1.1.1.2.2.2.2.2.1, ⟨hk.1.1.1.2.2.2.2.2.2, ⟨hk.1.1.2, ⟨hk.1.2, hk.2⟩⟩⟩⟩⟩⟩⟩⟩⟩))), (Rl_ (Kd.R_mono HO589.out (fun _ hk => ⟨hk.1.1.1.1, ⟨hk.1.1.1.2.1, ⟨hk.1.1.1.2.2.1, ⟨hk.1.1.1.2.2.2.1, ⟨hk.1.1.1.2.2.2.2.1, ⟨hk.1.1.1.2.2.2.2.2.1, ⟨hk.1.1.1.2.2.2.2.2.2, ⟨hk.1.1.2, ⟨hk.1.2, hk.2⟩⟩⟩⟩⟩⟩⟩⟩⟩))), (Rl_ (Kd.R_mono HO602.out (fun _ hk => ⟨hk.1.1.1.1.1.1.1.1.1.2, ⟨hk.1.1.1.1.1.1.1.1.2, ⟨hk.1.1.1.1.1.1.1.2, ⟨hk.1.1.1.1.1.1.2, ⟨hk.1.1.1.1.1.2, ⟨hk.1.1.1.1.2, ⟨hk.1.1.1.2, ⟨hk.1.1.2, ⟨hk.1.2, hk.2⟩⟩⟩⟩⟩⟩⟩⟩⟩))), (Rl_ (Kd.R_mono HO606.out (fun _ hk => ⟨hk.1.1.1.1.1.1.1.1.1.2, ⟨hk.1.1.1.1.1.1.1.1.2, ⟨hk.1.1.1.1.1.1.1.2, ⟨hk.1.1.1.1.1.1.2, ⟨hk.1.1.1.1.1.2, ⟨hk.1.1.1.1.2, ⟨hk.1.1.1.2, ⟨hk.1.1.2, ⟨hk.1.2, hk.2⟩⟩⟩⟩⟩⟩⟩⟩⟩))), (Rl_ (Kd.R_mono HO610.out (fun _ hk => ⟨hk.1.1.1.1.1.1.1.1.1.2, ⟨hk.1.1.1.1.1.1.1.1.2, ⟨hk.1.1.1.1.1.1.1.2, ⟨hk.1.1.1.1.1.1.2, ⟨hk.1.1.1.1.1.2, ⟨hk.1.1.1.1.2, ⟨hk.1.1.1.2, ⟨hk.1.1.2, ⟨hk.1.2, hk.2⟩⟩⟩⟩⟩⟩⟩⟩⟩))), (bl_ BK546), (bl_ BK547), (bl_ BK563), (bl_ BK568), (bl_ BK573), (bl_ BK579), (bl_ BK612), GW612.out, GE612.out, NB546_612.out, NB612_546.out, NB547_612.out, NB612_547.out, NB563_612.out, NB612_563.out, NB568_612.out, NB612_568.out, NB573_612.out, NB612_573.out, NB579_612.out, NB612_579.out, (Bl_ HB)⟩)
               rintro ⟨v601, v605, v609, gb612⟩ w127 ⟨hS_, h0_, h1_, h2_, h3_, h4_, h5_, h6_, h7_, h8_, h9_, h10_, h11_, h12_, h13_, h14_, h15_, h16_, h17_, h18_, h19_, h20_, h21_, h22_, h23_, h24_, h25_, h26_, h27_, h28_, h29_, h30_, h31_, h32_⟩
               replace HO553 : Aside0 (Kd.R (Kd.int .i64) 3 w127 w.heap.size (fun k_ => some k_ ≠ (v556 : Value).ownBlock ∧ some k_ ≠ (.slice Ao68 t559.length co68 : Value).ownBlock ∧ some k_ ≠ (.slice Ao78 t565.length co78 : Value).ownBlock ∧ some k_ ≠ (.slice Ao88 t570.length co88 : Value).ownBlock ∧ some k_ ≠ (.slice Ao98 t575.length co98 : Value).ownBlock ∧ some k_ ≠ (.slice Ao103 t582.length co103 : Value).ownBlock ∧ some k_ ≠ (.slice Ao107 t587.length co107 : Value).ownBlock ∧ some k_ ≠ (v601 : Value).ownBlock ∧ some k_ ≠ (v605 : Value).ownBlock ∧ some k_ ≠ (v609 : Value).ownBlock) v552 t551) := ⟨h0_⟩
               replace HO557 : Aside0 (Kd.R (Kd.int .i64) 3 w127 w.heap.size (fun k_ => some k_ ≠ (v552 : Value).ownBlock ∧ some k_ ≠ (.slice Ao68 t559.length co68 : Value).ownBlock ∧ some k_ ≠ (.slice Ao78 t565.length co78 : Value).ownBlock ∧ some k_ ≠ (.slice Ao88 t570.length co88 : Value).ownBlock ∧ some k_ ≠ (.slice Ao98 t575.length co98 : Value).ownBlock ∧ some k_ ≠ (.slice Ao103 t582.length co103 : Value).ownBlock ∧ some k_ ≠ (.slice Ao107 t587.length co107 : Value).ownBlock ∧ some k_ ≠ (v601 : Value).ownBlock ∧ some k_ ≠ (v605 : Value).ownBlock ∧ some k_ ≠ (v609 : Value).ownBlock) v556 t555) := ⟨h1_⟩
               replace HO561 : Aside0 (Kd.R (Kd.int .i64) 3 w127 w.heap.size (fun k_ => some k_ ≠ (v552 : Value).ownBlock ∧ some k_ ≠ (v556 : Value).ownBlock ∧ some k_ ≠ (.slice Ao78 t565.length co78 : Value).ownBlock ∧ some k_ ≠ (.slice Ao88 t570.length co88 : Value).ownBlock ∧ some k_ ≠ (.slice Ao98 t575.length co98 : Value).ownBlock ∧ some k_ ≠ (.slice Ao103 t582.length co103 : Value).ownBlock ∧ some k_ ≠ (.slice Ao107 t587.length co107 : Value).ownBlock ∧ some k_ ≠ (v601 : Value).ownBlock ∧ some k_ ≠ (v605 : Value).ownBlock ∧ some k_ ≠ (v609 : Value).ownBlock) (.slice Ao68 t559.length co68) t559) := ⟨h2_⟩
               replace HO567 : Aside0 (Kd.R (Kd.int .i64) 3 w127 w.heap.size (fun k_ => some k_ ≠ (v552 : Value).ownBlock ∧ some k_ ≠ (v556 : Value).ownBlock ∧ some k_ ≠ (.slice Ao68 t559.length co68 : Value).ownBlock ∧ some k_ ≠ (.slice Ao88 t570.length co88 : Value).ownBlock ∧ some k_ ≠ (.slice Ao98 t575.length co98 : Value).ownBlock ∧ some k_ ≠ (.slice Ao103 t582.length co103 : Value).ownBlock ∧ some k_ ≠ (.slice Ao107 t587.length co107 : Value).ownBlock ∧ some k_ ≠ (v601 : Value).ownBlock ∧ some k_ ≠ (v605 : Value).ownBlock ∧ some k_ ≠ (v609 : Value).ownBlock) (.slice Ao78 t565.length co78) t592) := ⟨h3_⟩
               replace HO572 : Aside0 (Kd.R (Kd.int .i64) 3 w127 w.heap.size (fun k_ => some k_ ≠ (v552 : Value).ownBlock ∧ some k_ ≠ (v556 : Value).ownBlock ∧ some k_ ≠ (.slice Ao68 t559.length co68 : Value).ownBlock ∧ some k_ ≠ (.slice Ao78 t565.length co78 : Value).ownBlock ∧ some k_ ≠ (.slice Ao98 t575.length co98 : Value).ownBlock ∧ some k_ ≠ (.slice Ao103 t582.length co103 : Value).ownBlock ∧ some k_ ≠ (.slice Ao107 t587.length co107 : Value).ownBlock ∧ some k_ ≠ (v601 : Value).ownBlock ∧ some k_ ≠ (v605 : Value).ownBlock ∧ some k_ ≠ (v609 : Value).ownBlock) (.slice Ao88 t570.length co88) t594) := ⟨h4_⟩
               replace HO577 : Aside0 (Kd.R (Kd.int .i64) 3 w127 w.heap.size (fun k_ => some k_ ≠ (v552 : Value).ownBlock ∧ some k_ ≠ (v556 : Value).ownBlock ∧ some k_ ≠ (.slice Ao68 t559.length co68 : Value).ownBlock ∧ some k_ ≠ (.slice Ao78 t565.length co78 : Value).ownBlock ∧ some k_ ≠ (.slice Ao88 t570.length co88 : Value).ownBlock ∧ some k_ ≠ (.slice Ao103 t582.length co103 : Value).ownBlock ∧ some k_ ≠ (.slice Ao107 t587.length co107 : Value).ownBlock ∧ some k_ ≠ (v601 : Value).ownBlock ∧ some k_ ≠ (v605 : Value).ownBlock ∧ some k_ ≠ (v609 : Value).ownBlock) (.slice Ao98 t575.length co98) t597) := ⟨h5_⟩
               replace HO584 : Aside0 (Kd.R (Kd.int .i64) 3 w127 w.heap.size (fun k_ => some k_ ≠ (v552 : Value).ownBlock ∧ some k_ ≠ (v556 : Value).ownBlock ∧ some k_ ≠ (.slice Ao68 t559.length co68 : Value).ownBlock ∧ some k_ ≠ (.slice Ao78 t565.length co78 : Value).ownBlock ∧ some k_ ≠ (.slice Ao88 t570.length co88 : Value).ownBlock ∧ some k_ ≠ (.slice Ao98 t575.length co98 : Value).ownBlock ∧ some k_ ≠ (.slice Ao107 t587.length co107 : Value).ownBlock ∧ some k_ ≠ (v601 : Value).ownBlock ∧ some k_ ≠ (v605 : Value).ownBlock ∧ some k_ ≠ (v609 : Value).ownBlock) (.slice Ao103 t582.length co103) t582) := ⟨h6_⟩
               replace HO589 : Aside0 (Kd.R (Kd.int .i64) 3 w127 w.heap.size (fun k_ => some k_ ≠ (v552 : Value).ownBlock ∧ some k_ ≠ (v556 : Value).ownBlock ∧ some k_ ≠ (.slice Ao68 t559.length co68 : Value).ownBlock ∧ some k_ ≠ (.slice Ao78 t565.length co78 : Value).ownBlock ∧ some k_ ≠ (.slice Ao88 t570.length co88 : Value).ownBlock ∧ some k_ ≠ (.slice Ao98 t575.length co98 : Value).ownBlock ∧ some k_ ≠ (.slice Ao103 t582.length co103 : Value).ownBlock ∧ some k_ ≠ (v601 : Value).ownBlock ∧ some k_ ≠ (v605 : Value).ownBlock ∧ some k_ ≠ (v609 : Value).ownBlock) (.slice Ao107 t587.length co107) t587) := ⟨h7_⟩
               have HO602 : Aside0 (Kd.R (Kd.int .i64) 3 w127 w.heap.size (fun k_ => some k_ ≠ (v552 : Value).ownBlock ∧ some k_ ≠ (v556 : Value).ownBlock ∧ some k_ ≠ (.slice Ao68 t559.length co68 : Value).ownBlock ∧ some k_ ≠ (.slice Ao78 t565.length co78 : Value).ownBlock ∧ some k_ ≠ (.slice Ao88 t570.length co88 : Value).ownBlock ∧ some k_ ≠ (.slice Ao98 t575.length co98 : Value).ownBlock ∧ some k_ ≠ (.slice Ao103 t582.length co103 : Value).ownBlock ∧ some k_ ≠ (.slice Ao107 t587.length co107 : Value).ownBlock ∧ some k_ ≠ (v605 : Value).ownBlock ∧ some k_ ≠ (v609 : Value).ownBlock) v601 t600) := ⟨h8_⟩
               have HO606 : Aside0 (Kd.R (Kd.int .i64) 3 w127 w.heap.size (fun k_ => some k_ ≠ (v552 : Value).ownBlock ∧ some k_ ≠ (v556 : Value).ownBlock ∧ some k_ ≠ (.slice Ao68 t559.length co68 : Value).ownBlock ∧ some k_ ≠ (.slice Ao78 t565.length co78 : Value).ownBlock ∧ some k_ ≠ (.slice Ao88 t570.length co88 : Value).ownBlock ∧ some k_ ≠ (.slice Ao98 t575.length co98 : Value).ownBlock ∧ some k_ ≠ (.slice Ao103 t582.length co103 : Value).ownBlock ∧ some k_ ≠ (.slice Ao107 t587.length co107 : Value).ownBlock ∧ some k_ ≠ (v601 : Value).ownBlock ∧ some k_ ≠ (v609 : Value).ownBlock) v605 t604) := ⟨h9_⟩
               have HO610 : Aside0 (Kd.R (Kd.int .i64) 3 w127 w.heap.size (fun k_ => some k_ ≠ (v552 : Value).ownBlock ∧ some k_ ≠ (v556 : Value).ownBlock ∧ some k_ ≠ (.slice Ao68 t559.length co68 : Value).ownBlock ∧ some k_ ≠ (.slice Ao78 t565.length co78 : Value).ownBlock ∧ some k_ ≠ (.slice Ao88 t570.length co88 : Value).ownBlock ∧ some k_ ≠ (.slice Ao98 t575.length co98 : Value).ownBlock ∧ some k_ ≠ (.slice Ao103 t582.length co103 : Value).ownBlock ∧ some k_ ≠ (.slice Ao107 t587.length co107 : Value).ownBlock ∧ some k_ ≠ (v601 : Value).ownBlock ∧ some k_ ≠ (v605 : Value).ownBlock) v609 t608) := ⟨h10_⟩
               replace BK546 : Aside0 (w127.heap[gb546]? = some (.cells #[.int .i64 a0_0, .slice A0_1 l0_1.length c0_1] 24 (0, 0))) := ⟨h11_⟩
               replace BK547 : Aside0 (w127.heap[gb547]? = some (.cells #[.int .i64 a1_0, .slice A1_1 l1_1.length c1_1] 24 (0, 0))) := ⟨h12_⟩
               replace BK563 : Aside0 (w127.heap[gb563]? = some (.cells #[.int .i64 t558, .slice Ao68 t559.length co68] 28 (0, 0))) := ⟨h13_⟩
               replace BK568 : Aside0 (w127.heap[gb568]? = some (.cells #[.int .i64 t564, .slice Ao78 t565.length co78] 28 (0, 0))) := ⟨h14_⟩
               replace BK573 : Aside0 (w127.heap[gb573]? = some (.cells #[.int .i64 t569, .slice Ao88 t570.length co88] 28 (0, 0))) := ⟨h15_⟩
               replace BK579 : Aside0 (w127.heap[gb579]? = some (.cells #[.int .i64 t574, .slice Ao98 t575.length co98] 28 (0, 0))) := ⟨h16_⟩
               have BK612 : Aside0 (w127.heap[gb612]? = some (.cells #[.int .i64 0, .slice none 0 0] 28 (0, 0))) := ⟨h17_⟩
               have GW612 : Aside0 (w.heap.size ≤ gb612) := ⟨h18_⟩
               have GE612 : Aside0 (w.heap.size ≤ gb612) := ⟨h19_⟩
               have NB546_612 : Aside0 (gb546 ≠ gb612) := ⟨h20_⟩
               have NB612_546 : Aside0 (gb612 ≠ gb546) := ⟨h21_⟩
               have NB547_612 : Aside0 (gb547 ≠ gb612) := ⟨h22_⟩
               have NB612_547 : Aside0 (gb612 ≠ gb547) := ⟨h23_⟩
               have NB563_612 : Aside0 (gb563 ≠ gb612) := ⟨h24_⟩
               have NB612_563 : Aside0 (gb612 ≠ gb563) := ⟨h25_⟩
               have NB568_612 : Aside0 (gb568 ≠ gb612) := ⟨h26_⟩
               have NB612_568 : Aside0 (gb612 ≠ gb568) := ⟨h27_⟩
               have NB573_612 : Aside0 (gb573 ≠ gb612) := ⟨h28_⟩
               have NB612_573 : Aside0 (gb612 ≠ gb573) := ⟨h29_⟩
               have NB579_612 : Aside0 (gb579 ≠ gb612) := ⟨h30_⟩
               have NB612_579 : Aside0 (gb612 ≠ gb579) := ⟨h31_⟩
               replace HB : Aside0 (Below w.heap.size w w127) := ⟨h32_⟩
               clear h0_ h1_ h2_ h3_ h4_ h5_ h6_ h7_ h8_ h9_ h10_ h11_ h12_ h13_ h14_ h15_ h16_ h17_ h18_ h19_ h20_ h21_ h22_ h23_ h24_ h25_ h26_ h27_ h28_ h29_ h30_ h31_ h32_
               have hHeld : w127.cell? ⟨gb546, 0, none⟩ = some (.int .i64 a0_0) ∧ w127.cell? ⟨gb546, 1, none⟩ = some (.slice A0_1 l0_1.length c0_1) ∧ w127.cell? ⟨gb547, 0, none⟩ = some (.int .i64 a1_0) ∧ w127.cell? ⟨gb547, 1, none⟩ = some (.slice A1_1 l1_1.length c1_1) := hS_
               obtain ⟨Ao129, co129, eo129⟩ := Kd.R_slice HO610.out
               (first | subst eo129 | (injection eo129 with f1_ f2_ f3_; have f4_ := f1_.symm; have f5_ := f3_.symm; clear f1_ f2_ f3_; subst f4_; subst f5_))
               refine norm_ (a' := ?_) ?_ ?_
               rotate_left
               ·simp only [putAll, Act.put, List.setIfInBounds_toArray, List.set_cons_zero, List.set_cons_succ]
                rfl
               refine one_ (i := 9) (N := none) #[true, true, true, true, true, true, true, true, true, true, false] rfl rfl (one_of HT_.out (by kernel_rfl)) (by decide) (fun K hK => ?_)
               have hs128 : w127.cell? ⟨gb612, 0, none⟩ = some (.int .i64 0) := (blk_cell BK612.out 0).trans rfl
               have hfs128 := blk_frozen BK612.out 0
               have hns128_0 := NB546_612.out
               have hns128_1 := NB547_612.out
               have hns128_2 := NB563_612.out
               have hns128_3 := NB568_612.out
               have hns128_4 := NB573_612.out
               have hns128_5 := NB579_612.out
               have hms128_0 := NB612_546.out
               have hms128_1 := NB612_547.out
               have hms128_2 := NB612_563.out
               have hms128_3 := NB612_568.out
               have hms128_4 := NB612_573.out
               have hms128_5 := NB612_579.out
               have hs130 : w127.cell? ⟨gb612, 1, none⟩ = some (.slice none 0 0) := (blk_cell BK612.out 1).trans rfl
               have hfs130 := blk_frozen BK612.out 1
               have hns130_0 := NB546_612.out
               have hns130_1 := NB547_612.out
               have hns130_2 := NB563_612.out
               have hns130_3 := NB568_612.out
               have hns130_4 := NB573_612.out
               have hns130_5 := NB579_612.out
               have hms130_0 := NB612_546.out
               have hms130_1 := NB612_547.out
               have hms130_2 := NB612_563.out
               have hms130_3 := NB612_568.out
               have hms130_4 := NB612_573.out
               have hms130_5 := NB612_579.out
               refine skip_ (w1 := ?_) (by rfl) rfl ?_ ?_
               rotate_left
               ·go_simp
                rfl
               refine hK.out _ _ ⟨((cell_far (p := ⟨gb612, _, none⟩) NB546_612.out _).trans (((cell_far (p := ⟨gb612, _, none⟩) NB546_612.out _).trans (hHeld.1)))), ((cell_far (p := ⟨gb612, _, none⟩) NB546_612.out _).trans (((cell_far (p := ⟨gb612, _, none⟩) NB546_612.out _).trans (hHeld.2.1)))), ((cell_far (p := ⟨gb612, _, none⟩) NB547_612.out _).trans (((cell_far (p := ⟨gb612, _, none⟩) NB547_612.out _).trans (hHeld.2.2.1)))), ((cell_far (p := ⟨gb612, _, none⟩) NB547_612.out _).trans (((cell_far (p := ⟨gb612, _, none⟩) NB547_612.out _).trans (hHeld.2.2.2))))⟩ (fun hHeld => ?_)
               clear hK K
               refine pure_ (i := 10) (N := some 16) (v := ?_) (a' := ?_) #[true, true, true, true, true, true, true, true, true, true, true] rfl rfl (any_of HT_.out (by kernel_rfl)) (fun _ _ _ h => h) (Or.inl ⟨by rfl, ?_⟩) ?_ ?_
               rotate_left
               ·intro w'
                go_simp
                with_reducible rfl
               rotate_left
               ·simp only [Act.put, List.setIfInBounds_toArray, List.set_cons_zero, List.set_cons_succ, i64_w, i32_w]
                rfl
               refine done_ (done_of HT_.out (by kernel_rfl)) ?_
               have hnb131 := NB612_546.out
               have hnc131 := NB546_612.out
               have hnb132 := NB612_547.out
               have hnc132 := NB547_612.out
               have hnb133 := NB612_563.out
               have hnc133 := NB563_612.out
               have hnb134 := NB612_568.out
               have hnc134 := NB568_612.out
               have hnb135 := NB612_573.out
               have hnc135 := NB573_612.out
               have hnb136 := NB612_579.out
               have hnc136 := NB579_612.out
               have hcz137_0 : w127.cell? ⟨gb612, 0, none⟩ = some (.int .i64 0) := (blk_cell BK612.out 0).trans rfl
               have hcz137_1 : w127.cell? ⟨gb612, 1, none⟩ = some (.slice none 0 0) := (blk_cell BK612.out 1).trans rfl
               have hfz137_0 := blk_frozen BK612.out 0
               have hfz137_1 := blk_frozen BK612.out 1
               have hcz138_0 : w127.cell? ⟨gb563, 0, none⟩ = some (.int .i64 t558) := (blk_cell BK563.out 0).trans rfl
               have hcz138_1 : w127.cell? ⟨gb563, 1, none⟩ = some (.slice Ao68 t559.length co68) := (blk_cell BK563.out 1).trans rfl
               have hfz138_0 := blk_frozen BK563.out 0
               have hfz138_1 := blk_frozen BK563.out 1
               try go_wp2_with (first | ((with_reducible refine gate_callee (f := 19) rfl ?_); refine gl_ (some 104) rfl rfl Try.func19 (by kernel_rfl) rfl #[.agg #[.int .i64 t607, .slice Ao129 t608.length co129], .agg #[.int .i64 t558, .slice Ao68 t559.length co68]] rfl ?_; (with_reducible refine (laws_eqLadder.calls k t607 _ _ t608 t558 _ _ t559 true _ ?side1 ?side2 ?side3 ?side4 A46.out).mono ?_); (case side1 => refine (Kd.R_reads' (e := 3) (base := w.heap.size) (ok := fun k_ => (some k_ ≠ (v552 : Value).ownBlock ∧ (some k_ ≠ (v556 : Value).ownBlock ∧ (some k_ ≠ (.slice Ao68 t559.length co68 : Value).ownBlock ∧ (some k_ ≠ (.slice Ao78 t565.length co78 : Value).ownBlock ∧ (some k_ ≠ (.slice Ao88 t570.length co88 : Value).ownBlock ∧ (some k_ ≠ (.slice Ao98 t575.length co98 : Value).ownBlock ∧ (some k_ ≠ (.slice Ao103 t582.length co103 : Value).ownBlock ∧ (some k_ ≠ (.slice Ao107 t587.length co107 : Value).ownBlock ∧ (some k_ ≠ (v601 : Value).ownBlock ∧ some k_ ≠ (v605 : Value).ownBlock)))))))))) (n := t608.length) (c := co129) ?_).2.2; exact (Rl_ (Kd.R_mono (Kd.R_far (p := ⟨gb612, 1, none⟩) (Kd.R_far (p := ⟨gb612, 0, none⟩) (Kd.R_types HO610.out BK612.out (by decide)) (fun _ hk => hk.2) (.int .i64 t607)) (fun _ hk => hk.2) (.slice Ao129 t608.length co129)) (fun _ h_ => h_.1)))); (case side2 => exact (Kd.R_reads' HO610.out).2.1); (case side3 => refine (Kd.R_reads' (e := 3) (base := w.heap.size) (ok := fun k_ => (some k_ ≠ (v552 : Value).ownBlock ∧ (some k_ ≠ (v556 : Value).ownBlock ∧ (some k_ ≠ (.slice Ao78 t565.length co78 : Value).ownBlock ∧ (some k_ ≠ (.slice Ao88 t570.length co88 : Value).ownBlock ∧ (some k_ ≠ (.slice Ao98 t575.length co98 : Value).ownBlock ∧ (some k_ ≠ (.slice Ao103 t582.length co103 : Value).ownBlock ∧ (some k_ ≠ (.slice Ao107 t587.length co107 : Value).ownBlock ∧ (some k_ ≠ (v601 : Value).ownBlock ∧ (some k_ ≠ (v605 : Value).ownBlock ∧ some k_ ≠ (.slice Ao129 t608.length co129 : Value).ownBlock)))))))))) (n := t559.length) (c := co68) ?_).2.2; exact (Rl_ (Kd.R_mono (Kd.R_far (p := ⟨gb612, 1, none⟩) (Kd.R_far (p := ⟨gb612, 0, none⟩) (Kd.R_types HO561.out BK612.out (by decide)) (fun _ hk => hk.2) (.int .i64 t607)) (fun _ hk => hk.2) (.slice Ao129 t608.length co129)) (fun _ h_ => h_.1)))); (case side4 => exact (Kd.R_reads' HO561.out).2.1); rintro e w139 ⟨rfl, hb⟩; refine ⟨_, rfl, ?_⟩; replace HO553 := Aside0.mk (Kd.R_below (Rl_ (Kd.R_mono (Kd.R_far (p := ⟨gb612, 1, none⟩) (Kd.R_far (p := ⟨gb612, 0, none⟩) (Kd.R_types HO553.out BK612.out (by decide)) (fun _ hk => hk.2) (.int .i64 t607)) (fun _ hk => hk.2) (.slice Ao129 t608.length co129)) (fun _ h_ => h_.1))) hb); replace HO557 := Aside0.mk (Kd.R_below (Rl_ (Kd.R_mono (Kd.R_far (p := ⟨gb612, 1, none⟩) (Kd.R_far (p := ⟨gb612, 0, none⟩) (Kd.R_types HO557.out BK612.out (by decide)) (fun _ hk => hk.2) (.int .i64 t607)) (fun _ hk => hk.2) (.slice Ao129 t608.length co129)) (fun _ h_ => h_.1))) hb); replace HO561 := Aside0.mk (Kd.R_below (Rl_ (Kd.R_mono (Kd.R_far (p := ⟨gb612, 1, none⟩) (Kd.R_far (p := ⟨gb612, 0, none⟩) (Kd.R_types HO561.out BK612.out (by decide)) (fun _ hk => hk.2) (.int .i64 t607)) (fun _ hk => hk.2) (.slice Ao129 t608.length co129)) (fun _ h_ => h_.1))) hb); replace HO567 := Aside0.mk (Kd.R_below (Rl_ (Kd.R_mono (Kd.R_far (p := ⟨gb612, 1, none⟩) (Kd.R_far (p := ⟨gb612, 0, none⟩) (Kd.R_types HO567.out BK612.out (by decide)) (fun _ hk => hk.2) (.int .i64 t607)) (fun _ hk => hk.2) (.slice Ao129 t608.length co129)) (fun _ h_ => h_.1))) hb); replace HO572 := Aside0.mk (Kd.R_below (Rl_ (Kd.R_mono (Kd.R_far (p := ⟨gb612, 1, none⟩) (Kd.R_far (p := ⟨gb612, 0, none⟩) (Kd.R_types HO572.out BK612.out (by decide)) (fun _ hk => hk.2) (.int .i64 t607)) (fun _ hk => hk.2) (.slice Ao129 t608.length co129)) (fun _ h_ => h_.1))) hb); replace HO577 := Aside0.mk (Kd.R_below (Rl_ (Kd.R_mono (Kd.R_far (p := ⟨gb612, 1, none⟩) (Kd.R_far (p := ⟨gb612, 0, none⟩) (Kd.R_types HO577.out BK612.out (by decide)) (fun _ hk => hk.2) (.int .i64 t607)) (fun _ hk => hk.2) (.slice Ao129 t608.length co129)) (fun _ h_ => h_.1))) hb); replace HO584 := Aside0.mk (Kd.R_below (Rl_ (Kd.R_mono (Kd.R_far (p := ⟨gb612, 1, none⟩) (Kd.R_far (p := ⟨gb612, 0, none⟩) (Kd.R_types HO584.out BK612.out (by decide)) (fun _ hk => hk.2) (.int .i64 t607)) (fun _ hk => hk.2) (.slice Ao129 t608.length co129)) (fun _ h_ => h_.1))) hb); replace HO589 := Aside0.mk (Kd.R_below (Rl_ (Kd.R_mono (Kd.R_far (p := ⟨gb612, 1, none⟩) (Kd.R_far (p := ⟨gb612, 0, none⟩) (Kd.R_types HO589.out BK612.out (by decide)) (fun _ hk => hk.2) (.int .i64 t607)) (fun _ hk => hk.2) (.slice Ao129 t608.length co129)) (fun _ h_ => h_.1))) hb); replace HO602 := Aside0.mk (Kd.R_below (Rl_ (Kd.R_mono (Kd.R_far (p := ⟨gb612, 1, none⟩) (Kd.R_far (p := ⟨gb612, 0, none⟩) (Kd.R_types HO602.out BK612.out (by decide)) (fun _ hk => hk.2) (.int .i64 t607)) (fun _ hk => hk.2) (.slice Ao129 t608.length co129)) (fun _ h_ => h_.1))) hb); replace HO606 := Aside0.mk (Kd.R_below (Rl_ (Kd.R_mono (Kd.R_far (p := ⟨gb612, 1, none⟩) (Kd.R_far (p := ⟨gb612, 0, none⟩) (Kd.R_types HO606.out BK612.out (by decide)) (fun _ hk => hk.2) (.int .i64 t607)) (fun _ hk => hk.2) (.slice Ao129 t608.length co129)) (fun _ h_ => h_.1))) hb); replace HO610 := Aside0.mk (Kd.R_below (Rl_ (Kd.R_mono (Kd.R_far (p := ⟨gb612, 1, none⟩) (Kd.R_far (p := ⟨gb612, 0, none⟩) (Kd.R_types HO610.out BK612.out (by decide)) (fun _ hk => hk.2) (.int .i64 t607)) (fun _ hk => hk.2) (.slice Ao129 t608.length co129)) (fun _ h_ => h_.1))) hb); replace BK546 := Aside0.mk (blk_below (g := gb546) (o := .cells #[.int .i64 a0_0, .slice A0_1 l0_1.length c0_1] 24 (0, 0)) (by (with_reducible repeat (first | refine blk_drewN ?_ _ | refine blk_drew ?_ | refine blk_alloc ?_ _)); refine blk_far ?_ NB546_612.out _; (with_reducible repeat (first | refine blk_drewN ?_ _ | refine blk_drew ?_ | refine blk_alloc ?_ _)); refine blk_far ?_ NB546_612.out _; (with_reducible repeat (first | refine blk_drewN ?_ _ | refine blk_drew ?_ | refine blk_alloc ?_ _)); exact BK546.out) hb); replace BK547 := Aside0.mk (blk_below (g := gb547) (o := .cells #[.int .i64 a1_0, .slice A1_1 l1_1.length c1_1] 24 (0, 0)) (by (with_reducible repeat (first | refine blk_drewN ?_ _ | refine blk_drew ?_ | refine blk_alloc ?_ _)); refine blk_far ?_ NB547_612.out _; (with_reducible repeat (first | refine blk_drewN ?_ _ | refine blk_drew ?_ | refine blk_alloc ?_ _)); refine blk_far ?_ NB547_612.out _; (with_reducible repeat (first | refine blk_drewN ?_ _ | refine blk_drew ?_ | refine blk_alloc ?_ _)); exact BK547.out) hb); replace BK563 := Aside0.mk (blk_below (g := gb563) (o := .cells #[.int .i64 t558, .slice Ao68 t559.length co68] 28 (0, 0)) (by (with_reducible repeat (first | refine blk_drewN ?_ _ | refine blk_drew ?_ | refine blk_alloc ?_ _)); refine blk_far ?_ NB563_612.out _; (with_reducible repeat (first | refine blk_drewN ?_ _ | refine blk_drew ?_ | refine blk_alloc ?_ _)); refine blk_far ?_ NB563_612.out _; (with_reducible repeat (first | refine blk_drewN ?_ _ | refine blk_drew ?_ | refine blk_alloc ?_ _)); exact BK563.out) hb); replace BK568 := Aside0.mk (blk_below (g := gb568) (o := .cells #[.int .i64 t564, .slice Ao78 t565.length co78] 28 (0, 0)) (by (with_reducible repeat (first | refine blk_drewN ?_ _ | refine blk_drew ?_ | refine blk_alloc ?_ _)); refine blk_far ?_ NB568_612.out _; (with_reducible repeat (first | refine blk_drewN ?_ _ | refine blk_drew ?_ | refine blk_alloc ?_ _)); refine blk_far ?_ NB568_612.out _; (with_reducible repeat (first | refine blk_drewN ?_ _ | refine blk_drew ?_ | refine blk_alloc ?_ _)); exact BK568.out) hb); replace BK573 := Aside0.mk (blk_below (g := gb573) (o := .cells #[.int .i64 t569, .slice Ao88 t570.length co88] 28 (0, 0)) (by (with_reducible repeat (first | refine blk_drewN ?_ _ | refine blk_drew ?_ | refine blk_alloc ?_ _)); refine blk_far ?_ NB573_612.out _; (with_reducible repeat (first | refine blk_drewN ?_ _ | refine blk_drew ?_ | refine blk_alloc ?_ _)); refine blk_far ?_ NB573_612.out _; (with_reducible repeat (first | refine blk_drewN ?_ _ | refine blk_drew ?_ | refine blk_alloc ?_ _)); exact BK573.out) hb); replace BK579 := Aside0.mk (blk_below (g := gb579) (o := .cells #[.int .i64 t574, .slice Ao98 t575.length co98] 28 (0, 0)) (by (with_reducible repeat (first | refine blk_drewN ?_ _ | refine blk_drew ?_ | refine blk_alloc ?_ _)); refine blk_far ?_ NB579_612.out _; (with_reducible repeat (first | refine blk_drewN ?_ _ | refine blk_drew ?_ | refine blk_alloc ?_ _)); refine blk_far ?_ NB579_612.out _; (with_reducible repeat (first | refine blk_drewN ?_ _ | refine blk_drew ?_ | refine blk_alloc ?_ _)); exact BK579.out) hb); replace BK612 := Aside0.mk (blk_below (g := gb612) (o := .cells #[.int .i64 t607, .slice Ao129 t608.length co129] 28 (0, 0)) (by (with_reducible repeat (first | refine blk_drewN ?_ _ | refine blk_drew ?_ | refine blk_alloc ?_ _)); refine blk_put (cs := #[.int .i64 t607, .slice none 0 0]) ?_ 1 _ rfl; (with_reducible repeat (first | refine blk_drewN ?_ _ | refine blk_drew ?_ | refine blk_alloc ?_ _)); refine blk_put (cs := #[.int .i64 0, .slice none 0 0]) ?_ 0 _ rfl; (with_reducible repeat (first | refine blk_drewN ?_ _ | refine blk_drew ?_ | refine blk_alloc ?_ _)); exact BK612.out) hb); replace HB := Aside0.mk (below_step (Bl_ HB) hb); (try clear hb); (try clear hb2); (try clear hk); (try clear hi); have hcz140_0 : w139.cell? ⟨gb579, 0, none⟩ = some (.int .i64 t574) := (blk_cell BK579.out 0).trans rfl; have hcz140_1 : w139.cell? ⟨gb579, 1, none⟩ = some (.slice Ao98 t575.length co98) := (blk_cell BK579.out 1).trans rfl; have hfz140_0 := blk_frozen BK579.out 0; have hfz140_1 := blk_frozen BK579.out 1) | ((with_reducible refine gate_callee (f := 30) rfl ?_); refine goesL_ (some 113) rfl rfl Try.func30 (by kernel_rfl) rfl #[.agg #[.int .i64 t574, .slice Ao98 t597.length co98], .int .i64 1] rfl (by (try simp only [List.map_toArray, List.map_cons, List.map_nil]); first | done | (rw [show t597.length = t575.length from (Kd.R_reads' HO577.out).1.symm] <;> rfl) | rfl | (simp only [List.length_drop, List.length_take]; rfl)) ?_; (with_reducible refine (laws_heldLadder.calls k t574 _ _ t597 1 t614 _ ?side1 ?side2 A49.out).mono ?_); (case side1 => exact Cl_ (Kd.R_reads' HO577.out).2.2); (case side2 => rw [show t597.length = t575.length from (Kd.R_reads' HO577.out).1.symm]; exact (Kd.R_reads' HO577.out).2.1); rintro e w141 ⟨rfl, hb⟩; refine ⟨_, rfl, ?_⟩; replace HO553 := Aside0.mk (Kd.R_below (Rl_ HO553.out) hb); replace HO557 := Aside0.mk (Kd.R_below (Rl_ HO557.out) hb); replace HO561 := Aside0.mk (Kd.R_below (Rl_ HO561.out) hb); replace HO567 := Aside0.mk (Kd.R_below (Rl_ HO567.out) hb); replace HO572 := Aside0.mk (Kd.R_below (Rl_ HO572.out) hb); replace HO577 := Aside0.mk (Kd.R_below (Rl_ HO577.out) hb); replace HO584 := Aside0.mk (Kd.R_below (Rl_ HO584.out) hb); replace HO589 := Aside0.mk (Kd.R_below (Rl_ HO589.out) hb); replace HO602 := Aside0.mk (Kd.R_below (Rl_ HO602.out) hb); replace HO606 := Aside0.mk (Kd.R_below (Rl_ HO606.out) hb); replace HO610 := Aside0.mk (Kd.R_below (Rl_ HO610.out) hb); replace BK546 := blkB_ BK546 hb; replace BK547 := blkB_ BK547 hb; replace BK563 := blkB_ BK563 hb; replace BK568 := blkB_ BK568 hb; replace BK573 := blkB_ BK573 hb; replace BK579 := blkB_ BK579 hb; replace BK612 := blkB_ BK612 hb; replace HB := Aside0.mk (below_step (Bl_ HB) hb); (try clear hb); (try clear hb2); (try clear hk); (try clear hi)))
               go_ret
               exact ⟨by first | rfl | (simp [errW_none, errW_some] <;> rfl) | (simp [*, errW_none, errW_some] <;> rfl), Bl_ HB⟩
              ·rw [if_neg c51] at H
               exact absurd H (by simp)
           ·replace c47 := Bool.eq_false_iff.mpr c47
            subst c47
            have H1 : (none) = some r := by rw [if_neg (show ¬ (false = true) by decide)] at H; exact H
            clear H
            have H := H1
            clear H1
            exact absurd H (by simp)
          ·rw [if_neg c42] at H
           exact absurd H (by simp)
        ·replace c38 := Bool.eq_false_iff.mpr c38
         subst c38
         have H1 : (none) = some r := by rw [if_neg (show ¬ (false = true) by decide)] at H; exact H
         clear H
         have H := H1
         clear H1
         exact absurd H (by simp)
      ·replace c33 := Bool.eq_false_iff.mpr c33
       subst c33
       have H1 : (none) = some r := by rw [if_neg (show ¬ (false = true) by decide)] at H; exact H
       clear H
       have H := H1
       clear H1
       exact absurd H (by simp)
     ·replace c30 := Bool.eq_false_iff.mpr c30
      subst c30
      have H1 : (none) = some r := by rw [if_neg (show ¬ (false = true) by decide)] at H; exact H
      clear H
      have H := H1
      clear H1
      exact absurd H (by simp)
   ·replace c26 := Bool.eq_false_iff.mpr c26
    subst c26
    have H1 : (none) = some r := by rw [if_neg (show ¬ (false = true) by decide)] at H; exact H
    clear H
    have H := H1
    clear H1
    exact absurd H (by simp)

end Go.Proofs.Ythpdhoplddlieaa.B
