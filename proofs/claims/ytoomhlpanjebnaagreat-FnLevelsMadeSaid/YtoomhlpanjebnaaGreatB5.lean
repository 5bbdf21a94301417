/- The walks of functions of the given program and of its reference: each call of the machine returns what the plain Lean function of the same name says. Conditions: those in each statement. (Written by this session's program over the kit's print.) -/
import Derived.Test.YtoomhlpanjebnaaGreatB0
import Derived.Test.YtoomhlpanjebnaaGreatB1
import Derived.Test.YtoomhlpanjebnaaGreatB2
import Derived.Test.YtoomhlpanjebnaaGreatB3
import Derived.Test.YtoomhlpanjebnaaGreatB4
namespace Go.Proofs.YtoomhlpanjebnaaGreat.B
open Go.RowKit Go.Proofs.YtoomhlpanjebnaaGreatW.PrintWords Go.Proofs.YtoomhlpanjebnaaGreatW.PrintLast Go.Proofs.YtoomhlpanjebnaaGreatW.PrintMore
attribute [local go_sem] max2_int min2_int max_two min_two max_three min_three max_four min_four   -- for this text's walks alone
set_option linter.unusedVariables false
set_option linter.unusedSimpArgs false
set_option maxHeartbeats 8000000
set_option maxRecDepth 100000

/-! ### laws_FnLevelsMade: function 3 -/
mutual
def laws_FnLevelsMade.j4 : Nat → List Int → Option (Bool)
 | 0, _ => none
 | k + 1, x1 => (spec_DrawLeastLevels.f k x1).bind fun t752 => ((impl_LeastLevels.f k t752).bind fun bt755 => ((spec_LeastLevels.f k t752).bind fun bt759 => ((impl_LeastDepth.f k t752).bind fun bt763 => ((spec_LeastDepth.f k t752).bind fun bt765 => (if (bt755.2 != bt759.2) = true then (none) else ((laws_nRows.f k bt755.1 bt759.1).bind fun t767 => (if t767 = true then (if (bt763.2 != bt765.2) = true then (none) else (if bt763.1 = bt765.1 then (if (bt763.2 != bt755.2) = true then (none) else (if bt755.2 = true then ((impl_LadderOfLevels.f k (t752.length : Int) bt755.1).bind fun bt768 => ((impl_ResultOf.f k bt768.1 bt768.2.1).bind fun bt774 => (if (bt755.1.length : Int) = bt763.1 then (if bt768.2.2 = true then (if bt774.2 = true then ((laws_nSame.f k bt774.1 t752).bind fun t778 => (if t778 = true then (if bt763.1 > (t752.length : Int) then (none) else (laws_FnLevelsMade.j5 k x1)) else (none))) else (none)) else (none)) else (none)))) else (laws_FnLevelsMade.j5 k x1))) else (none))) else (none))))))))
def laws_FnLevelsMade.j5 : Nat → List Int → Option (Bool)
 | 0, _ => none
 | k + 1, x1 => (spec_DrawBrickRoute.f k x1).bind fun t779 => ((impl_BrickRoute.f k t779).bind fun bt782 => ((spec_BrickRoute.f k t779).bind fun bt786 => ((impl_BrickDepth.f k t779).bind fun bt790 => ((spec_BrickDepth.f k t779).bind fun bt792 => (if (bt782.2 != bt786.2) = true then (none) else ((laws_nRows.f k bt782.1 bt786.1).bind fun t794 => (if t794 = true then (if (bt790.2 != bt792.2) = true then (none) else (if bt790.1 = bt792.1 then (if (bt790.2 != bt782.2) = true then (none) else (if bt782.2 = true then ((impl_LadderOfLevels.f k (t779.length : Int) bt782.1).bind fun bt795 => ((impl_ResultOf.f k bt795.1 bt795.2.1).bind fun bt801 => ((impl_InversionsOf.f k t779).bind fun bt805 => (if (bt782.1.length : Int) = (t779.length : Int) then (if bt795.2.2 = true then (if bt801.2 = true then ((laws_nSame.f k bt801.1 t779).bind fun t807 => (if t807 = true then (if bt790.1 > (t779.length : Int) then (none) else (if bt805.2 = true then (if (bt795.2.1.length : Int) = bt805.1 then (laws_FnLevelsMade.l3 k bt790.1 bt782.1 (bt782.1.length : Int) 0) else (none)) else (none))) else (none))) else (none)) else (none)) else (none))))) else (some true))) else (none))) else (none))))))))
def laws_FnLevelsMade.l3 : Nat → Int → List (List Int) → Int → Int → Option (Bool)
 | 0, _, _, _, _ => none
 | k + 1, x57, x479, x480, x481 => if x481 < x480 then (if 0 ≤ x481 then (if x481 < (x479.length : Int) then (laws_FnLevelsMade.l4 k x57 x481 x479 x480 x481 (rd_L2 x479 x481) ((rd_L2 x479 x481).length : Int) 0) else (none)) else (none)) else (some true)
def laws_FnLevelsMade.l4 : Nat → Int → Int → List (List Int) → Int → Int → List Int → Int → Int → Option (Bool)
 | 0, _, _, _, _, _, _, _, _ => none
 | k + 1, x57, x67, x479, x480, x481, x486, x487, x488 => if x488 < x487 then (if 0 ≤ x488 then (if x488 < (x486.length : Int) then (if (Int.tmod (rd x486 x488) 2) = (Int.tmod x67 2) then (if x67 ≥ x57 then (none) else (laws_FnLevelsMade.l4 k x57 x67 x479 x480 x481 x486 x487 (wrap64 (x488 + 1)))) else (none)) else (none)) else (none)) else (laws_FnLevelsMade.l3 k x57 x479 x480 (wrap64 (x481 + 1)))
def laws_FnLevelsMade.l0 : Nat → List Int → List (List Int) → Int → Int → List Int → Int → List (List Int) → Int → Int → Int → List Int → Option (Bool)
 | 0, _, _, _, _, _, _, _, _, _, _, _ => none
 | k + 1, x1, x6, x10, x14, x20, x28, x215, x216, x217, x698000, x698001 => if x217 < x216 then (if 0 ≤ x217 then (if x217 < (x215.length : Int) then ((impl_IsLevel.f k x698000 (rd_L2 x215 x217)).bind fun bt745 => (if bt745.2 = true then (if bt745.1 = true then (if ((rd_L2 x215 x217).length : Int) = 0 then (none) else (if ((rd_L2 x215 x217).length : Int) > x28 then (laws_FnLevelsMade.j1 k x1 x6 x10 x14 x20 ((rd_L2 x215 x217).length : Int) x217 x215 x216 x217 x698000 x698001) else (laws_FnLevelsMade.j1 k x1 x6 x10 x14 x20 x28 x217 x215 x216 x217 x698000 x698001))) else (none)) else (none))) else (none)) else (none)) else (if x28 = x14 then (if x698000 ≤ 6 then ((impl_LeastDepth.f k x20).bind fun bt750 => (if bt750.2 = true then (if bt750.1 > x10 then (none) else (laws_FnLevelsMade.j4 k x1)) else (none))) else (laws_FnLevelsMade.j4 k x1)) else (none))
def laws_FnLevelsMade.j1 : Nat → List Int → List (List Int) → Int → Int → List Int → Int → Int → List (List Int) → Int → Int → Int → List Int → Option (Bool)
 | 0, _, _, _, _, _, _, _, _, _, _, _, _ => none
 | k + 1, x1, x6, x10, x14, x20, x28, x29, x215, x216, x217, x698000, x698001 => laws_FnLevelsMade.l1 k x1 x6 x10 x14 x20 x28 x29 x215 x216 x217 (rd_L2 x215 x217) ((rd_L2 x215 x217).length : Int) 0 x698000 x698001
def laws_FnLevelsMade.l1 : Nat → List Int → List (List Int) → Int → Int → List Int → Int → Int → List (List Int) → Int → Int → List Int → Int → Int → Int → List Int → Option (Bool)
 | 0, _, _, _, _, _, _, _, _, _, _, _, _, _, _, _ => none
 | k + 1, x1, x6, x10, x14, x20, x28, x29, x215, x216, x217, x246, x247, x248, x698000, x698001 => if x248 < x247 then (if 0 ≤ x248 then (if x248 < (x246.length : Int) then (laws_FnLevelsMade.l2 k x1 x6 x10 x14 x20 x28 x29 (rd x246 x248) (x29 == 0) (-1) x215 x216 x217 x246 x247 x248 x698000 x698001) else (none)) else (none)) else (laws_FnLevelsMade.l0 k x1 x6 x10 x14 x20 x28 x215 x216 (wrap64 (x217 + 1)) x698000 x698001)
def laws_FnLevelsMade.l2 : Nat → List Int → List (List Int) → Int → Int → List Int → Int → Int → Int → Bool → Int → List (List Int) → Int → Int → List Int → Int → Int → Int → List Int → Option (Bool)
 | 0, _, _, _, _, _, _, _, _, _, _, _, _, _, _, _, _, _, _ => none
 | k + 1, x1, x6, x10, x14, x20, x28, x29, x34, x35, x36, x215, x216, x217, x246, x247, x248, x698000, x698001 => if x36 ≤ 1 then (if x29 > 0 then (if x35 = true then (laws_FnLevelsMade.l2 k x1 x6 x10 x14 x20 x28 x29 x34 true (wrap64 (x36 + 1)) x215 x216 x217 x246 x247 x248 x698000 x698001) else (if 0 ≤ (wrap64 (x29 - 1)) then (if (wrap64 (x29 - 1)) < (x6.length : Int) then ((laws_nHas.f k (rd_L2 x6 (wrap64 (x29 - 1))) (wrap64 (x34 + x36))).bind fun t749 => (laws_FnLevelsMade.l2 k x1 x6 x10 x14 x20 x28 x29 x34 t749 (wrap64 (x36 + 1)) x215 x216 x217 x246 x247 x248 x698000 x698001)) else (none)) else (none))) else (if x35 = true then (laws_FnLevelsMade.l1 k x1 x6 x10 x14 x20 x28 x29 x215 x216 x217 x246 x247 (wrap64 (x248 + 1)) x698000 x698001) else (none))) else (if x35 = true then (laws_FnLevelsMade.l1 k x1 x6 x10 x14 x20 x28 x29 x215 x216 x217 x246 x247 (wrap64 (x248 + 1)) x698000 x698001) else (none))
end
def laws_FnLevelsMade.f (k : Nat) (l0 : List Int) (l1 : List Int) : Option (Bool) := (laws_big.f l0 l1).bind fun t692 => (if t692 = true then (some true) else ((spec_DrawLevelsOf.f k l0).bind fun bt693 => ((impl_LevelsOf.f k bt693.1 bt693.2).bind fun bt698 => ((spec_LevelsOf.f k bt693.1 bt693.2).bind fun bt702 => ((impl_DepthOf.f k bt693.1 bt693.2).bind fun bt706 => ((spec_DepthOf.f k bt693.1 bt693.2).bind fun bt708 => ((impl_WidestLevel.f k bt693.1 bt693.2).bind fun bt710 => ((spec_WidestLevel.f k bt693.1 bt693.2).bind fun bt712 => (if (bt698.2 != bt702.2) = true then (none) else ((laws_nRows.f k bt698.1 bt702.1).bind fun t714 => (if t714 = true then (if (bt706.2 != bt708.2) = true then (none) else (if bt706.1 = bt708.1 then (if (bt710.2 != bt712.2) = true then (none) else (if bt710.1 = bt712.1 then (if (bt706.2 != bt698.2) = true then (none) else (if (bt710.2 != bt698.2) = true then (none) else ((impl_IsLadder.f bt693.1 bt693.2).bind fun t715 => (if (bt698.2 != t715) = true then (none) else (if bt698.2 = true then ((impl_LadderOfLevels.f k bt693.1 bt698.1).bind fun bt716 => ((impl_ResultOf.f k bt693.1 bt693.2).bind fun bt722 => ((impl_ResultOf.f k bt716.1 bt716.2.1).bind fun bt726 => ((impl_FirstSame.f k bt693.1 bt693.2).bind fun bt730 => ((impl_FirstSame.f k bt716.1 bt716.2.1).bind fun bt736 => (if bt716.2.2 = true then (if bt722.2 = true then (if bt726.2 = true then ((laws_nSame.f k bt722.1 bt726.1).bind fun t742 => (if t742 = true then (if (bt698.1.length : Int) = bt706.1 then (if bt730.2.2 = true then (if bt736.2.2 = true then ((laws_nLadder.f k bt730.1 bt730.2.1 bt736.1 bt736.2.1).bind fun t743 => (if t743 = true then (laws_FnLevelsMade.l0 k l1 bt698.1 bt706.1 bt710.1 bt722.1 0 bt698.1 (bt698.1.length : Int) 0 bt693.1 bt693.2) else (none))) else (none)) else (none)) else (none)) else (none))) else (none)) else (none)) else (none))))))) else (laws_FnLevelsMade.j4 k l1)))))) else (none))) else (none))) else (none))))))))))))
theorem laws_FnLevelsMade.mono_l : ∀ k, (∀ y0, LeO (laws_FnLevelsMade.j4 k y0) (laws_FnLevelsMade.j4 (k + 1) y0)) ∧ (∀ y0, LeO (laws_FnLevelsMade.j5 k y0) (laws_FnLevelsMade.j5 (k + 1) y0)) ∧ (∀ y0 y1 y2 y3, LeO (laws_FnLevelsMade.l3 k y0 y1 y2 y3) (laws_FnLevelsMade.l3 (k + 1) y0 y1 y2 y3)) ∧ (∀ y0 y1 y2 y3 y4 y5 y6 y7, LeO (laws_FnLevelsMade.l4 k y0 y1 y2 y3 y4 y5 y6 y7) (laws_FnLevelsMade.l4 (k + 1) y0 y1 y2 y3 y4 y5 y6 y7)) ∧ (∀ y0 y1 y2 y3 y4 y5 y6 y7 y8 y9 y10, LeO (laws_FnLevelsMade.l0 k y0 y1 y2 y3 y4 y5 y6 y7 y8 y9 y10) (laws_FnLevelsMade.l0 (k + 1) y0 y1 y2 y3 y4 y5 y6 y7 y8 y9 y10)) ∧ (∀ y0 y1 y2 y3 y4 y5 y6 y7 y8 y9 y10 y11, LeO (laws_FnLevelsMade.j1 k y0 y1 y2 y3 y4 y5 y6 y7 y8 y9 y10 y11) (laws_FnLevelsMade.j1 (k + 1) y0 y1 y2 y3 y4 y5 y6 y7 y8 y9 y10 y11)) ∧ (∀ y0 y1 y2 y3 y4 y5 y6 y7 y8 y9 y10 y11 y12 y13 y14, LeO (laws_FnLevelsMade.l1 k y0 y1 y2 y3 y4 y5 y6 y7 y8 y9 y10 y11 y12 y13 y14) (laws_FnLevelsMade.l1 (k + 1) y0 y1 y2 y3 y4 y5 y6 y7 y8 y9 y10 y11 y12 y13 y14)) ∧ (∀ y0 y1 y2 y3 y4 y5 y6 y7 y8 y9 y10 y11 y12 y13 y14 y15 y16 y17, LeO (laws_FnLevelsMade.l2 k y0 y1 y2 y3 y4 y5 y6 y7 y8 y9 y10 y11 y12 y13 y14 y15 y16 y17) (laws_FnLevelsMade.l2 (k + 1) y0 y1 y2 y3 y4 y5 y6 y7 y8 y9 y10 y11 y12 y13 y14 y15 y16 y17))
 | 0 => ⟨fun _ r h => by simp [laws_FnLevelsMade.j4] at h, fun _ r h => by simp [laws_FnLevelsMade.j5] at h, fun _ _ _ _ r h => by simp [laws_FnLevelsMade.l3] at h, fun _ _ _ _ _ _ _ _ r h => by simp [laws_FnLevelsMade.l4] at h, fun _ _ _ _ _ _ _ _ _ _ _ r h => by simp [laws_FnLevelsMade.l0] at h, fun _ _ _ _ _ _ _ _ _ _ _ _ r h => by simp [laws_FnLevelsMade.j1] at h, fun _ _ _ _ _ _ _ _ _ _ _ _ _ _ _ r h => by simp [laws_FnLevelsMade.l1] at h, fun _ _ _ _ _ _ _ _ _ _ _ _ _ _ _ _ _ _ r h => by simp [laws_FnLevelsMade.l2] at h⟩
 | k + 1 => by
  obtain ⟨ih0, ih1, ih2, ih3, ih4, ih5, ih6, ih7⟩ := laws_FnLevelsMade.mono_l k;refine ⟨?_, ?_, ?_, ?_, ?_, ?_, ?_, ?_⟩
  ·intro y0;unfold laws_FnLevelsMade.j4;have m1 := @impl_LadderOfLevels.mono;have m2 := @impl_LeastDepth.mono;have m3 := @impl_LeastLevels.mono;have m4 := @impl_ResultOf.mono;have m5 := @laws_nRows.mono;have m6 := @laws_nSame.mono;have m7 := @spec_DrawLeastLevels.mono;have m8 := @spec_LeastDepth.mono;have m9 := @spec_LeastLevels.mono;exact mo_
  ·intro y0;unfold laws_FnLevelsMade.j5;have m1 := @impl_BrickDepth.mono;have m2 := @impl_BrickRoute.mono;have m3 := @impl_InversionsOf.mono;have m4 := @impl_LadderOfLevels.mono;have m5 := @impl_ResultOf.mono;have m6 := @laws_nRows.mono;have m7 := @laws_nSame.mono;have m8 := @spec_BrickDepth.mono;have m9 := @spec_BrickRoute.mono;have m10 := @spec_DrawBrickRoute.mono;exact mo_
  ·intro y0 y1 y2 y3;unfold laws_FnLevelsMade.l3;exact mo_
  ·intro y0 y1 y2 y3 y4 y5 y6 y7;unfold laws_FnLevelsMade.l4;exact mo_
  ·intro y0 y1 y2 y3 y4 y5 y6 y7 y8 y9 y10;unfold laws_FnLevelsMade.l0;have m1 := @impl_IsLevel.mono;have m2 := @impl_LeastDepth.mono;exact mo_
  ·intro y0 y1 y2 y3 y4 y5 y6 y7 y8 y9 y10 y11;unfold laws_FnLevelsMade.j1;exact mo_
  ·intro y0 y1 y2 y3 y4 y5 y6 y7 y8 y9 y10 y11 y12 y13 y14;unfold laws_FnLevelsMade.l1;exact mo_
  ·intro y0 y1 y2 y3 y4 y5 y6 y7 y8 y9 y10 y11 y12 y13 y14 y15 y16 y17;unfold laws_FnLevelsMade.l2;have m1 := @laws_nHas.mono;exact mo_
theorem laws_FnLevelsMade.mono : ∀ a0 a1 k, LeO (laws_FnLevelsMade.f k a0 a1) (laws_FnLevelsMade.f (k + 1) a0 a1) := by
 intro a0 a1 k;obtain ⟨ih0, ih1, ih2, ih3, ih4, ih5, ih6, ih7⟩ := laws_FnLevelsMade.mono_l k;unfold laws_FnLevelsMade.f
 repeat' first
  | (with_reducible exact ih0 _)
  | (with_reducible exact ih4 _ _ _ _ _ _ _ _ _ _ _)
  | (with_reducible exact impl_DepthOf.mono _ _ _)
  | (with_reducible exact impl_FirstSame.mono _ _ _)
  | (with_reducible exact impl_LadderOfLevels.mono _ _ _)
  | (with_reducible exact impl_LevelsOf.mono _ _ _)
  | (with_reducible exact impl_ResultOf.mono _ _ _)
  | (with_reducible exact impl_WidestLevel.mono _ _ _)
  | (with_reducible exact laws_nLadder.mono _ _ _ _ _)
  | (with_reducible exact laws_nRows.mono _ _ _)
  | (with_reducible exact laws_nSame.mono _ _ _)
  | (with_reducible exact spec_DepthOf.mono _ _ _)
  | (with_reducible exact spec_DrawLevelsOf.mono _ _)
  | (with_reducible exact spec_LevelsOf.mono _ _ _)
  | (with_reducible exact spec_WidestLevel.mono _ _ _)
  | (with_reducible exact LeO.refl _)
  | (with_reducible exact LeO.none _)
  | (with_reducible refine LeO.ite ?_ ?_)
  | (with_reducible refine LeO.bind ?_ (fun _ => ?_))
  | exact LeO.none _
  | refine LeO.ite ?_ ?_
  | refine LeO.bind ?_ (fun _ => ?_)
def codeAt_ : Nat → Code → Code
 | 0, c => c
 | n + 1, .seq _ b => codeAt_ n b
 | _ + 1, c => c

/-- THE ONE PURE STATEMENT of laws_FnLevelsMade: yours. -/
def laws_FnLevelsMade.Pure : Prop := ∀ (l0 : List Int) (l1 : List Int), l0.length ≤ maxLen → l0.length * 1 ≤ 140737488351232 → (∀ x ∈ l0, (Lit.int .u8 x).wf = true) → l1.length ≤ maxLen → l1.length * 1 ≤ 140737488351232 → (∀ x ∈ l1, (Lit.int .u8 x).wf = true) → ∃ k, laws_FnLevelsMade.f k l0 l1 = some true

end Go.Proofs.YtoomhlpanjebnaaGreat.B
