/- The walks of functions of the given program and of its reference: each call of the machine returns what the plain Lean function of the same name says. Conditions: those in each statement. (Written by this session's program over the kit's print.) -/
import Derived.Test.YtakddaclgppdjaaB0
import Derived.Test.YtakddaclgppdjaaB1
import Derived.Test.YtakddaclgppdjaaB2
import Derived.Test.YtakddaclgppdjaaB3
import Derived.Test.YtakddaclgppdjaaB4
namespace Go.Proofs.Ytakddaclgppdjaa.B
open Go.RowKit Go.Proofs.YtakddaclgppdjaaW.PrintWords Go.Proofs.YtakddaclgppdjaaW.PrintLast Go.Proofs.YtakddaclgppdjaaW.PrintMore
attribute [local go_sem] max2_int min2_int max_two min_two max_three min_three max_four min_four   -- for this text's walks alone
set_option linter.unusedVariables false
set_option linter.unusedSimpArgs false

/-! ### laws_FnStartsTaken: function 3 -/
mutual
def laws_FnStartsTaken.j3 : Nat → List Int → Option (Bool)
 | 0, _ => none
 | k + 1, x1 => (spec_DrawKeepStarts.f k x1).bind fun bt630 => ((impl_KeepStarts.f k bt630.1 bt630.2.1 bt630.2.2).bind fun bt638 => ((spec_KeepStarts.f k bt630.1 bt630.2.1 bt630.2.2).bind fun bt644 => (if (bt638.2.2 != bt644.2.2) = true then (none) else ((laws_kLadder.f k bt638.1 bt638.2.1 bt644.1 bt644.2.1).bind fun t650 => (if t650 = true then (if bt638.2.2 = true then ((laws_kResult.f k bt630.1 bt630.2.1).bind fun t651 => ((impl_PatternOf.f k t651 bt630.2.2).bind fun bt654 => (if bt654.2 = true then ((laws_kResult.f k bt638.1 bt638.2.1).bind fun t658 => ((laws_kSame.f k t658 bt654.1).bind fun t661 => (if t661 = true then (laws_FnStartsTaken.j4 k x1) else (none)))) else (none)))) else (laws_FnStartsTaken.j4 k x1)) else (none))))))
def laws_FnStartsTaken.j4 : Nat → List Int → Option (Bool)
 | 0, _ => none
 | k + 1, x1 => (spec_DrawPutWire.f k x1).bind fun bt662 => ((impl_PutWire.f k bt662.1 bt662.2.1 bt662.2.2).bind fun bt668 => ((spec_PutWire.f k bt662.1 bt662.2.1 bt662.2.2).bind fun bt674 => (if (bt668.2.2 != bt674.2.2) = true then (none) else ((laws_kLadder.f k bt668.1 bt668.2.1 bt674.1 bt674.2.1).bind fun t680 => (if t680 = true then (if bt668.2.2 = true then ((impl_EndOf.f k bt668.1 bt668.2.1 bt662.2.2).bind fun bt681 => ((impl_TakeStart.f k bt668.1 bt668.2.1 bt662.2.2).bind fun bt683 => ((impl_StaysOn.f k bt668.1 bt668.2.1).bind fun bt689 => (if bt681.2 = true then (if bt681.1 = bt662.2.2 then (if bt683.2.2 = true then ((laws_kLadder.f k bt683.1 bt683.2.1 bt662.1 bt662.2.1).bind fun t693 => (if t693 = true then (if bt689.2 = true then ((laws_kHas.f k bt689.1 bt662.2.2).bind fun t694 => (if t694 = true then (laws_FnStartsTaken.j5 k x1) else (none))) else (none)) else (none))) else (none)) else (none)) else (none))))) else (laws_FnStartsTaken.j5 k x1)) else (none))))))
def laws_FnStartsTaken.j5 : Nat → List Int → Option (Bool)
 | 0, _ => none
 | k + 1, x1 => (spec_DrawBesideLadders.f k x1).bind fun bt695 => ((impl_BesideLadders.f k bt695.1 bt695.2.1 bt695.2.2.1 bt695.2.2.2).bind fun bt705 => ((spec_BesideLadders.f k bt695.1 bt695.2.1 bt695.2.2.1 bt695.2.2.2).bind fun bt711 => (if (bt705.2.2 != bt711.2.2) = true then (none) else ((laws_kLadder.f k bt705.1 bt705.2.1 bt711.1 bt711.2.1).bind fun t717 => (if t717 = true then (if bt705.2.2 = true then ((impl_IsSplit.f k bt705.1 bt705.2.1 bt695.1).bind fun bt718 => ((laws_kResult.f k bt705.1 bt705.2.1).bind fun t720 => ((laws_kResult.f k bt695.1 bt695.2.1).bind fun t723 => ((laws_kResult.f k bt695.2.2.1 bt695.2.2.2).bind fun t726 => (if bt718.2 = true then (if bt718.1 = true then (if (t720.length : Int) = (wrap64 ((t723.length : Int) + (t726.length : Int))) then (laws_FnStartsTaken.l3 k x1 t723 t726 t720 (t720.length : Int) 0) else (none)) else (none)) else (none)))))) else (laws_FnStartsTaken.j7 k x1)) else (none))))))
def laws_FnStartsTaken.j7 : Nat → List Int → Option (Bool)
 | 0, _ => none
 | k + 1, x1 => (spec_DrawDoubleLadder.f k x1).bind fun bt733 => ((impl_DoubleLadder.f k bt733.1 bt733.2).bind fun bt738 => ((spec_DoubleLadder.f k bt733.1 bt733.2).bind fun bt744 => (if (bt738.2.2 != bt744.2.2) = true then (none) else ((laws_kLadder.f k bt738.1 bt738.2.1 bt744.1 bt744.2.1).bind fun t750 => (if t750 = true then (if bt738.2.2 = true then ((laws_kResult.f k bt733.1 bt733.2).bind fun t751 => ((laws_kResult.f k bt738.1 bt738.2.1).bind fun t754 => (laws_FnStartsTaken.l4 k t754 t751 (t751.length : Int) 0 bt733.1 bt733.2 bt738.1 bt738.2.1))) else (some true)) else (none))))))
def laws_FnStartsTaken.l4 : Nat → List Int → List Int → Int → Int → Int → List Int → Int → List Int → Option (Bool)
 | 0, _, _, _, _, _, _, _, _ => none
 | k + 1, x66, x445, x446, x447, x738000, x738001, x744000, x744001 => if x447 < x446 then (if 0 ≤ x447 then (if x447 < (x445.length : Int) then (if 0 ≤ (wrap64 (2 * x447)) then (if (wrap64 (2 * x447)) < (x66.length : Int) then (if (rd x66 (wrap64 (2 * x447))) = (wrap64 (2 * (rd x445 x447))) then (if 0 ≤ (wrap64 ((wrap64 (2 * x447)) + 1)) then (if (wrap64 ((wrap64 (2 * x447)) + 1)) < (x66.length : Int) then (if (rd x66 (wrap64 ((wrap64 (2 * x447)) + 1))) = (wrap64 ((wrap64 (2 * (rd x445 x447))) + 1)) then (laws_FnStartsTaken.l4 k x66 x445 x446 (wrap64 (x447 + 1)) x738000 x738001 x744000 x744001) else (none)) else (none)) else (none)) else (none)) else (none)) else (none)) else (none)) else (none)) else (some ((x744001.length : Int) == (wrap64 (4 * (x738001.length : Int)))))
def laws_FnStartsTaken.l3 : Nat → List Int → List Int → List Int → List Int → Int → Int → Option (Bool)
 | 0, _, _, _, _, _, _ => none
 | k + 1, x1, x56, x57, x379, x380, x381 => if x381 < x380 then (if 0 ≤ x381 then (if x381 < (x379.length : Int) then (if x381 < (x56.length : Int) then (if (rd x379 x381) = (rd x56 x381) then (if x381 ≥ (x56.length : Int) then (if 0 ≤ (wrap64 (x381 - (x56.length : Int))) then (if (wrap64 (x381 - (x56.length : Int))) < (x57.length : Int) then (if (rd x379 x381) = (wrap64 ((x56.length : Int) + (rd x57 (wrap64 (x381 - (x56.length : Int)))))) then (laws_FnStartsTaken.l3 k x1 x56 x57 x379 x380 (wrap64 (x381 + 1))) else (none)) else (none)) else (none)) else (laws_FnStartsTaken.l3 k x1 x56 x57 x379 x380 (wrap64 (x381 + 1)))) else (none)) else (if x381 ≥ (x56.length : Int) then (if 0 ≤ (wrap64 (x381 - (x56.length : Int))) then (if (wrap64 (x381 - (x56.length : Int))) < (x57.length : Int) then (if (rd x379 x381) = (wrap64 ((x56.length : Int) + (rd x57 (wrap64 (x381 - (x56.length : Int)))))) then (laws_FnStartsTaken.l3 k x1 x56 x57 x379 x380 (wrap64 (x381 + 1))) else (none)) else (none)) else (none)) else (laws_FnStartsTaken.l3 k x1 x56 x57 x379 x380 (wrap64 (x381 + 1))))) else (none)) else (none)) else (laws_FnStartsTaken.j7 k x1)
def laws_FnStartsTaken.l0 : Nat → List Int → Int → List Int → Int → Int → List Int → Int → List Int → Option (Bool)
 | 0, _, _, _, _, _, _, _, _ => none
 | k + 1, x1, x6, x11, x12, x582000, x582001, x588000, x588001 => if x12 < x582000 then (if x12 = x6 then (laws_FnStartsTaken.l0 k x1 x6 x11 (wrap64 (x12 + 1)) x582000 x582001 x588000 x588001) else (if x11.length < 17592186044416 then (laws_FnStartsTaken.l0 k x1 x6 (x11 ++ [x12]) (wrap64 (x12 + 1)) x582000 x582001 x588000 x588001) else (none))) else ((laws_kResult.f k x582000 x582001).bind fun t598 => ((impl_PatternOf.f k t598 x11).bind fun bt601 => ((impl_RungsUsed.f k x582000 x582001 x6).bind fun bt605 => ((impl_KeepStarts.f k x582000 x582001 x11).bind fun bt609 => (if bt601.2 = true then ((laws_kResult.f k x588000 x588001).bind fun t615 => ((laws_kSame.f k t615 bt601.1).bind fun t618 => (if t618 = true then (if bt605.2 = true then (if (x588001.length : Int) = (wrap64 ((x582001.length : Int) - (bt605.1.length : Int))) then (if bt609.2.2 = true then ((laws_kLadder.f k bt609.1 bt609.2.1 x588000 x588001).bind fun t619 => (if t619 = true then (laws_FnStartsTaken.l1 k x1 x11 x11 (x11.length : Int) 0 x582000 x582001 x588000 x588001) else (none))) else (none)) else (none)) else (none)) else (none)))) else (none))))))
def laws_FnStartsTaken.l1 : Nat → List Int → List Int → List Int → Int → Int → Int → List Int → Int → List Int → Option (Bool)
 | 0, _, _, _, _, _, _, _, _, _ => none
 | k + 1, x1, x11, x166, x167, x168, x582000, x582001, x588000, x588001 => if x168 < x167 then (if 0 ≤ x168 then (if x168 < (x166.length : Int) then (if x168 ≤ (x11.length : Int) then ((some (x11.take (x168 : Int).toNat : List Int)).bind fun y621 => (laws_FnStartsTaken.l2 k x1 x11 x168 (rd x166 x168) x166 x167 x168 y621 (y621.length : Int) 0 x582000 x582001 x588000 x588001)) else (none)) else (none)) else (none)) else (laws_FnStartsTaken.j3 k x1)
def laws_FnStartsTaken.l2 : Nat → List Int → List Int → Int → Int → List Int → Int → Int → List Int → Int → Int → Int → List Int → Int → List Int → Option (Bool)
 | 0, _, _, _, _, _, _, _, _, _, _, _, _, _, _ => none
 | k + 1, x1, x11, x19, x20, x166, x167, x168, x175, x176, x177, x582000, x582001, x588000, x588001 => if x177 < x176 then (if 0 ≤ x177 then (if x177 < (x175.length : Int) then ((impl_MeetingsOf.f k x582000 x582001 x20 (rd x175 x177)).bind fun bt626 => ((impl_MeetingsOf.f k x588000 x588001 x19 x177).bind fun bt628 => (if bt626.2 = true then (if bt628.2 = true then (if bt626.1 = bt628.1 then (laws_FnStartsTaken.l2 k x1 x11 x19 x20 x166 x167 x168 x175 x176 (wrap64 (x177 + 1)) x582000 x582001 x588000 x588001) else (none)) else (none)) else (none)))) else (none)) else (none)) else (laws_FnStartsTaken.l1 k x1 x11 x166 x167 (wrap64 (x168 + 1)) x582000 x582001 x588000 x588001)
end
def laws_FnStartsTaken.f (k : Nat) (l0 : List Int) (l1 : List Int) : Option (Bool) := (laws_big.f l0 l1).bind fun t575 => (if t575 = true then (some true) else ((spec_DrawTakeStart.f k l0).bind fun bt576 => ((impl_TakeStart.f k bt576.1 bt576.2.1 bt576.2.2).bind fun bt582 => ((spec_TakeStart.f k bt576.1 bt576.2.1 bt576.2.2).bind fun bt588 => (if (bt582.2.2 != bt588.2.2) = true then (none) else ((laws_kLadder.f k bt582.1 bt582.2.1 bt588.1 bt588.2.1).bind fun t594 => (if t594 = true then (if bt582.2.2 = true then (laws_FnStartsTaken.l0 k l1 bt576.2.2 ([] : List Int) 0 bt576.1 bt576.2.1 bt582.1 bt582.2.1) else (laws_FnStartsTaken.j3 k l1)) else (none))))))))
theorem laws_FnStartsTaken.mono_l : ∀ k, (∀ y0, LeO (laws_FnStartsTaken.j3 k y0) (laws_FnStartsTaken.j3 (k + 1) y0)) ∧ (∀ y0, LeO (laws_FnStartsTaken.j4 k y0) (laws_FnStartsTaken.j4 (k + 1) y0)) ∧ (∀ y0, LeO (laws_FnStartsTaken.j5 k y0) (laws_FnStartsTaken.j5 (k + 1) y0)) ∧ (∀ y0, LeO (laws_FnStartsTaken.j7 k y0) (laws_FnStartsTaken.j7 (k + 1) y0)) ∧ (∀ y0 y1 y2 y3 y4 y5 y6 y7, LeO (laws_FnStartsTaken.l4 k y0 y1 y2 y3 y4 y5 y6 y7) (laws_FnStartsTaken.l4 (k + 1) y0 y1 y2 y3 y4 y5 y6 y7)) ∧ (∀ y0 y1 y2 y3 y4 y5, LeO (laws_FnStartsTaken.l3 k y0 y1 y2 y3 y4 y5) (laws_FnStartsTaken.l3 (k + 1) y0 y1 y2 y3 y4 y5)) ∧ (∀ y0 y1 y2 y3 y4 y5 y6 y7, LeO (laws_FnStartsTaken.l0 k y0 y1 y2 y3 y4 y5 y6 y7) (laws_FnStartsTaken.l0 (k + 1) y0 y1 y2 y3 y4 y5 y6 y7)) ∧ (∀ y0 y1 y2 y3 y4 y5 y6 y7 y8, LeO (laws_FnStartsTaken.l1 k y0 y1 y2 y3 y4 y5 y6 y7 y8) (laws_FnStartsTaken.l1 (k + 1) y0 y1 y2 y3 y4 y5 y6 y7 y8)) ∧ (∀ y0 y1 y2 y3 y4 y5 y6 y7 y8 y9 y10 y11 y12 y13, LeO (laws_FnStartsTaken.l2 k y0 y1 y2 y3 y4 y5 y6 y7 y8 y9 y10 y11 y12 y13) (laws_FnStartsTaken.l2 (k + 1) y0 y1 y2 y3 y4 y5 y6 y7 y8 y9 y10 y11 y12 y13))
 | 0 => ⟨fun _ r h => by simp [laws_FnStartsTaken.j3] at h, fun _ r h => by simp [laws_FnStartsTaken.j4] at h, fun _ r h => by simp [laws_FnStartsTaken.j5] at h, fun _ r h => by simp [laws_FnStartsTaken.j7] at h, fun _ _ _ _ _ _ _ _ r h => by simp [laws_FnStartsTaken.l4] at h, fun _ _ _ _ _ _ r h => by simp [laws_FnStartsTaken.l3] at h, fun _ _ _ _ _ _ _ _ r h => by simp [laws_FnStartsTaken.l0] at h, fun _ _ _ _ _ _ _ _ _ r h => by simp [laws_FnStartsTaken.l1] at h, fun _ _ _ _ _ _ _ _ _ _ _ _ _ _ r h => by simp [laws_FnStartsTaken.l2] at h⟩
 | k + 1 => by
  obtain ⟨ih0, ih1, ih2, ih3, ih4, ih5, ih6, ih7, ih8⟩ := laws_FnStartsTaken.mono_l k
  refine ⟨?_, ?_, ?_, ?_, ?_, ?_, ?_, ?_, ?_⟩
  ·intro y0
   unfold laws_FnStartsTaken.j3
   repeat' first
   | (with_reducible exact ih1 _)
   | (with_reducible exact impl_KeepStarts.mono _ _ _ _)
   | (with_reducible exact impl_PatternOf.mono _ _ _)
   | (with_reducible exact laws_kLadder.mono _ _ _ _ _)
   | (with_reducible exact laws_kResult.mono _ _ _)
   | (with_reducible exact laws_kSame.mono _ _ _)
   | (with_reducible exact spec_DrawKeepStarts.mono _ _)
   | (with_reducible exact spec_KeepStarts.mono _ _ _ _)
   | (with_reducible exact LeO.refl _)
   | (with_reducible exact LeO.none _)
   | (with_reducible refine LeO.ite ?_ ?_)
   | (with_reducible refine LeO.bind ?_ (fun _ => ?_))
   | exact LeO.none _
   | refine LeO.ite ?_ ?_
   | refine LeO.bind ?_ (fun _ => ?_)
  ·intro y0
   unfold laws_FnStartsTaken.j4
   repeat' first
   | (with_reducible exact ih2 _)
   | (with_reducible exact impl_EndOf.mono _ _ _ _)
   | (with_reducible exact impl_PutWire.mono _ _ _ _)
   | (with_reducible exact impl_StaysOn.mono _ _ _)
   | (with_reducible exact impl_TakeStart.mono _ _ _ _)
   | (with_reducible exact laws_kHas.mono _ _ _)
   | (with_reducible exact laws_kLadder.mono _ _ _ _ _)
   | (with_reducible exact spec_DrawPutWire.mono _ _)
   | (with_reducible exact spec_PutWire.mono _ _ _ _)
   | (with_reducible exact LeO.refl _)
   | (with_reducible exact LeO.none _)
   | (with_reducible refine LeO.ite ?_ ?_)
   | (with_reducible refine LeO.bind ?_ (fun _ => ?_))
   | exact LeO.none _
   | refine LeO.ite ?_ ?_
   | refine LeO.bind ?_ (fun _ => ?_)
  ·intro y0
   unfold laws_FnStartsTaken.j5
   repeat' first
   | (with_reducible exact ih3 _)
   | (with_reducible exact ih5 _ _ _ _ _ _)
   | (with_reducible exact impl_BesideLadders.mono _ _ _ _ _)
   | (with_reducible exact impl_IsSplit.mono _ _ _ _)
   | (with_reducible exact laws_kLadder.mono _ _ _ _ _)
   | (with_reducible exact laws_kResult.mono _ _ _)
   | (with_reducible exact spec_BesideLadders.mono _ _ _ _ _)
   | (with_reducible exact spec_DrawBesideLadders.mono _ _)
   | (with_reducible exact LeO.refl _)
   | (with_reducible exact LeO.none _)
   | (with_reducible refine LeO.ite ?_ ?_)
   | (with_reducible refine LeO.bind ?_ (fun _ => ?_))
   | exact LeO.none _
   | refine LeO.ite ?_ ?_
   | refine LeO.bind ?_ (fun _ => ?_)
  ·intro y0
   unfold laws_FnStartsTaken.j7
   repeat' first
   | (with_reducible exact ih4 _ _ _ _ _ _ _ _)
   | (with_reducible exact impl_DoubleLadder.mono _ _ _)
   | (with_reducible exact laws_kLadder.mono _ _ _ _ _)
   | (with_reducible exact laws_kResult.mono _ _ _)
   | (with_reducible exact spec_DoubleLadder.mono _ _ _)
   | (with_reducible exact spec_DrawDoubleLadder.mono _ _)
   | (with_reducible exact LeO.refl _)
   | (with_reducible exact LeO.none _)
   | (with_reducible refine LeO.ite ?_ ?_)
   | (with_reducible refine LeO.bind ?_ (fun _ => ?_))
   | exact LeO.none _
   | refine LeO.ite ?_ ?_
   | refine LeO.bind ?_ (fun _ => ?_)
  ·intro y0 y1 y2 y3 y4 y5 y6 y7
   unfold laws_FnStartsTaken.l4
   repeat' first
   | (with_reducible exact ih4 _ _ _ _ _ _ _ _)
   | (with_reducible exact LeO.refl _)
   | (with_reducible exact LeO.none _)
   | (with_reducible refine LeO.ite ?_ ?_)
   | (with_reducible refine LeO.bind ?_ (fun _ => ?_))
   | exact LeO.none _
   | refine LeO.ite ?_ ?_
   | refine LeO.bind ?_ (fun _ => ?_)
  ·intro y0 y1 y2 y3 y4 y5
   unfold laws_FnStartsTaken.l3
   repeat' first
   | (with_reducible exact ih3 _)
   | (with_reducible exact ih5 _ _ _ _ _ _)
   | (with_reducible exact LeO.refl _)
   | (with_reducible exact LeO.none _)
   | (with_reducible refine LeO.ite ?_ ?_)
   | (with_reducible refine LeO.bind ?_ (fun _ => ?_))
   | exact LeO.none _
   | refine LeO.ite ?_ ?_
   | refine LeO.bind ?_ (fun _ => ?_)
  ·intro y0 y1 y2 y3 y4 y5 y6 y7
   unfold laws_FnStartsTaken.l0
   repeat' first
   | (with_reducible exact ih6 _ _ _ _ _ _ _ _)
   | (with_reducible exact ih7 _ _ _ _ _ _ _ _ _)
   | (with_reducible exact impl_KeepStarts.mono _ _ _ _)
   | (with_reducible exact impl_PatternOf.mono _ _ _)
   | (with_reducible exact impl_RungsUsed.mono _ _ _ _)
   | (with_reducible exact laws_kLadder.mono _ _ _ _ _)
   | (with_reducible exact laws_kResult.mono _ _ _)
   | (with_reducible exact laws_kSame.mono _ _ _)
   | (with_reducible exact LeO.refl _)
   | (with_reducible exact LeO.none _)
   | (with_reducible refine LeO.ite ?_ ?_)
   | (with_reducible refine LeO.bind ?_ (fun _ => ?_))
   | exact LeO.none _
   | refine LeO.ite ?_ ?_
   | refine LeO.bind ?_ (fun _ => ?_)
  ·intro y0 y1 y2 y3 y4 y5 y6 y7 y8
   unfold laws_FnStartsTaken.l1
   repeat' first
   | (with_reducible exact ih0 _)
   | (with_reducible exact ih8 _ _ _ _ _ _ _ _ _ _ _ _ _ _)
   | (with_reducible exact LeO.refl _)
   | (with_reducible exact LeO.none _)
   | (with_reducible refine LeO.ite ?_ ?_)
   | (with_reducible refine LeO.bind ?_ (fun _ => ?_))
   | exact LeO.none _
   | refine LeO.ite ?_ ?_
   | refine LeO.bind ?_ (fun _ => ?_)
  ·intro y0 y1 y2 y3 y4 y5 y6 y7 y8 y9 y10 y11 y12 y13
   unfold laws_FnStartsTaken.l2
   repeat' first
   | (with_reducible exact ih7 _ _ _ _ _ _ _ _ _)
   | (with_reducible exact ih8 _ _ _ _ _ _ _ _ _ _ _ _ _ _)
   | (with_reducible exact impl_MeetingsOf.mono _ _ _ _ _)
   | (with_reducible exact LeO.refl _)
   | (with_reducible exact LeO.none _)
   | (with_reducible refine LeO.ite ?_ ?_)
   | (with_reducible refine LeO.bind ?_ (fun _ => ?_))
   | exact LeO.none _
   | refine LeO.ite ?_ ?_
   | refine LeO.bind ?_ (fun _ => ?_)
theorem laws_FnStartsTaken.mono : ∀ a0 a1 k, LeO (laws_FnStartsTaken.f k a0 a1) (laws_FnStartsTaken.f (k + 1) a0 a1) := by
 intro a0 a1 k
 obtain ⟨ih0, ih1, ih2, ih3, ih4, ih5, ih6, ih7, ih8⟩ := laws_FnStartsTaken.mono_l k
 unfold laws_FnStartsTaken.f
 repeat' first
  | (with_reducible exact ih0 _)
  | (with_reducible exact ih6 _ _ _ _ _ _ _ _)
  | (with_reducible exact impl_TakeStart.mono _ _ _ _)
  | (with_reducible exact laws_kLadder.mono _ _ _ _ _)
  | (with_reducible exact spec_DrawTakeStart.mono _ _)
  | (with_reducible exact spec_TakeStart.mono _ _ _ _)
  | (with_reducible exact LeO.refl _)
  | (with_reducible exact LeO.none _)
  | (with_reducible refine LeO.ite ?_ ?_)
  | (with_reducible refine LeO.bind ?_ (fun _ => ?_))
  | exact LeO.none _
  | refine LeO.ite ?_ ?_
  | refine LeO.bind ?_ (fun _ => ?_)
def laws_FnStartsTaken.T59 : Bool × List (List Nat × List Nat) := (true, [([], []), ([0], [0]), ([], []), ([2, 1], [2]), ([], []), ([4, 3], [4]), ([1, 5, 0, 1], [1]), ([3, 6, 0, 1, 2, 3, 6], [3]), ([5, 7, 0, 1, 2, 3, 4, 5, 6, 7], [5])])
def laws_FnStartsTaken.B59 : List Nat := [0, 1, 0, 7, 0, 31, 63, 127, 255]
theorem laws_FnStartsTaken.tab59 : rtab .any (opsOf Try.f3 59) = laws_FnStartsTaken.T59 := by kernel_rfl
theorem laws_FnStartsTaken.bits59 : waitsOk laws_FnStartsTaken.T59.2 laws_FnStartsTaken.B59 = true := by kernel_rfl
set_option maxHeartbeats 8000000 in
set_option maxRecDepth 100000 in
theorem laws_FnStartsTaken.calls (k : Nat) (A0 : Option Addr) (c0 : Nat) (l0 : List Int) (A1 : Option Addr) (c1 : Nat) (l1 : List Int) (r : Bool) (w : World) (hr0 : Kd.C (Kd.int .u8) w A0 l0.length l0) (hc0 : l0.length ≤ c0) (hr1 : Kd.C (Kd.int .u8) w A1 l1.length l1) (hc1 : l1.length ≤ c1) (h : laws_FnStartsTaken.f k l0 l1 = some r) :
 Calls Try.prog 3 #[.slice A0 l0.length c0, .slice A1 l1.length c1] w fun e w' => e = .returned (.bool r) ∧ Below w.heap.size w w' := by
 have hu26 := Try.underlying26
 have HR0 := a_ hr0
 have HC0 := a_ hc0
 clear hr0 hc0
 have HR1 := a_ hr1
 have HC1 := a_ hc1
 clear hr1 hc1
 have HB := a_ (Below.refl w.heap.size w)
 have H : ((laws_big.f l0 l1).bind fun t575 => (if t575 = true then (some true) else ((spec_DrawTakeStart.f k l0).bind fun bt576 => ((impl_TakeStart.f k bt576.1 bt576.2.1 bt576.2.2).bind fun bt582 => ((spec_TakeStart.f k bt576.1 bt576.2.1 bt576.2.2).bind fun bt588 => (if (bt582.2.2 != bt588.2.2) = true then (none) else ((laws_kLadder.f k bt582.1 bt582.2.1 bt588.1 bt588.2.1).bind fun t594 => (if t594 = true then (if bt582.2.2 = true then (laws_FnStartsTaken.l0 k l1 bt576.2.2 ([] : List Int) 0 bt576.1 bt576.2.1 bt582.1 bt582.2.1) else (laws_FnStartsTaken.j3 k l1)) else (none))))))))) = some r := h
 clear h
 obtain ⟨t575, A3, H⟩ := ob_ H
 (try dsimp only at H)
 by_cases c4 : t575 = true
 ·subst c4
  rw [if_pos rfl] at H
  obtain rfl := Option.some.inj H
  go_enter Try.func3, Try.ntmps3
  go_wp2_with (first | ((with_reducible refine gate_callee (f := 4) rfl ?_); refine gm_ (some 71) Try.func4 #[.slice A0 l0.length c0, .slice A1 l1.length c1] rfl ?_; (with_reducible refine (laws_big.calls _ _ l0 _ _ l1 true _ ?side1 ?side2 ?side3 ?side4 A3.out).mono ?_); (case side1 => repeat (first | exact HR0.out | (with_reducible refine Kd.C_alloc ?_ _) | (with_reducible refine Kd.C_drewN ?_ _) | (with_reducible refine Kd.C_drew ?_))); (case side2 => exact HC0.out); (case side3 => repeat (first | exact HR1.out | (with_reducible refine Kd.C_alloc ?_ _) | (with_reducible refine Kd.C_drewN ?_ _) | (with_reducible refine Kd.C_drew ?_))); (case side4 => exact HC1.out); rintro e w' ⟨rfl, ⟨nd, rfl⟩⟩; refine ⟨_, rfl, ?_⟩))
  go_ret
  exact ⟨re_, Bl_ HB⟩
 replace c4 := Bool.eq_false_iff.mpr c4
 subst c4
 rw [if_neg (show ¬ (false = true) by decide)] at H
 obtain ⟨⟨t576, t577, t580⟩, A5, H⟩ := ob_ H
 (try dsimp only at H)
 obtain ⟨⟨t582, t583, t586⟩, A6, H⟩ := ob_ H
 (try dsimp only at H)
 obtain ⟨⟨t588, t589, t592⟩, A7, H⟩ := ob_ H
 (try dsimp only at H)
 by_cases c8 : (t586 != t592) = true
 ·rw [if_pos c8] at H
  cases H
 rw [if_neg c8] at H
 have c8b0 : (t586 != t592) = false := by simpa using c8
 (try (have c8b1 : decide (t586 = t592) = true := by simpa using c8))
 (try (have c8b2 : (t586 == t592) = true := by simpa using c8))
 clear c8
 obtain ⟨t594, A9, H⟩ := ob_ H
 (try dsimp only at H)
 by_cases c10 : t594 = true
 rotate_left
 ·replace c10 := Bool.eq_false_iff.mpr c10
  subst c10
  rw [if_neg (show ¬ (false = true) by decide)] at H
  cases H
 subst c10
 rw [if_pos rfl] at H
 have HC11 := a_ H
 clear H
 go_enter Try.func3, Try.ntmps3
 go_upto_if 98 with (first | ((with_reducible refine gate_callee (f := 4) rfl ?_); refine gm_ (some 71) Try.func4 #[.slice A0 l0.length c0, .slice A1 l1.length c1] rfl ?_; (with_reducible refine (laws_big.calls _ _ l0 _ _ l1 false _ ?side1 ?side2 ?side3 ?side4 A3.out).mono ?_); (case side1 => repeat (first | exact HR0.out | (with_reducible refine Kd.C_alloc ?_ _) | (with_reducible refine Kd.C_drewN ?_ _) | (with_reducible refine Kd.C_drew ?_))); (case side2 => exact HC0.out); (case side3 => repeat (first | exact HR1.out | (with_reducible refine Kd.C_alloc ?_ _) | (with_reducible refine Kd.C_drewN ?_ _) | (with_reducible refine Kd.C_drew ?_))); (case side4 => exact HC1.out); rintro e w' ⟨rfl, ⟨nd, rfl⟩⟩; refine ⟨_, rfl, ?_⟩) | ((with_reducible refine gate_callee (f := 5) rfl ?_); refine gm_ (some 74) Try.func5 #[.slice A0 l0.length c0] rfl ?_; (with_reducible refine (spec_DrawTakeStart.calls k _ _ l0 t576 t577 t580 _ ?side1 ?side2 A5.out).mono ?_); (case side1 => repeat (first | exact HR0.out | (with_reducible refine Kd.C_alloc ?_ _) | (with_reducible refine Kd.C_drewN ?_ _) | (with_reducible refine Kd.C_drew ?_))); (case side2 => exact HC0.out); rintro e w12 ⟨v578, rfl, ho0, hb⟩; refine ⟨_, rfl, ?_⟩; have HO579 := a_ (Kd.R_lower ho0 (below_size (Bl_ HB))); replace HB := Bs_ HB hb; (try clear hb); (try clear hb2); (try clear hk); (try clear hi); (try clear ho0)) | ((with_reducible refine gate_dst (N := 5) rfl ?_); (try (refine gate_guard (by rfl) ?_; dsimp only)); refine bx_ #[.int .i64 0, .slice none 0 0] 26 ?_ 5; intro gb581 hg w13 hbox hb; replace HO579 := a_ (Kd.R_below (Rl_ HO579.out) hb); have BK581 := a_ (hbox); have GW581 := gw_ HB hg; have GE581 := gw_ HB hg; replace HB := Bs_ HB hb; clear hb hbox hg; have hcz14_0 := cz_ (.int .i64 0) BK581 0; have hcz14_1 := cz_ (.slice none 0 0) BK581 1; have hfz14_0 := fz_ BK581 0; have hfz14_1 := fz_ BK581 1; obtain ⟨Ao15, co15, eo15⟩ := Kd.R_slice HO579.out; subst eo15) | ((with_reducible refine gate_callee (f := 6) rfl ?_); refine gm_ (some 80) Try.func6 #[.agg #[.int .i64 t576, .slice Ao15 t577.length co15], .int .i64 t580] rfl ?_; (with_reducible refine (impl_TakeStart.calls k t576 _ _ t577 t580 t582 t583 t586 _ ?side1 ?side2 A6.out).mono ?_); (case side1 => refine (Kd.R_reads' (e := 3) (base := w.heap.size) (ok := fun k_ => True) (n := t577.length) (c := co15) ?_).2.2; exact (Rl_ (Rf2_ HO579.out BK581.out (by decide) (.int .i64 t576) (.slice Ao15 t577.length co15)))); (case side2 => exact (Kd.R_reads' HO579.out).2.1); rintro e w16 ⟨v584, rfl, ho0, hb⟩; refine ⟨_, rfl, ?_⟩; have HO585 := a_ (Kd.R_lower (Kd.R_new' ho0 (Kd.R_lt (Rl_ (Rf2_ HO579.out BK581.out (by decide) (.int .i64 t576) (.slice Ao15 t577.length co15))))) (below_size (Bl_ HB))); replace HO579 := a_ (Kd.R_elder' (Rl_ (Rf2_ HO579.out BK581.out (by decide) (.int .i64 t576) (.slice Ao15 t577.length co15))) (Kd.R_base ho0) hb); replace BK581 := a_ (blk_below (g := gb581) (o := .cells #[.int .i64 t576, .slice Ao15 t577.length co15] 26 (0, 0)) (by (with_reducible repeat (first | refine blk_drewN ?_ _ | refine blk_drew ?_ | refine blk_alloc ?_ _)); refine blk_put (cs := #[.int .i64 t576, .slice none 0 0]) ?_ 1 _ rfl; (with_reducible repeat (first | refine blk_drewN ?_ _ | refine blk_drew ?_ | refine blk_alloc ?_ _)); refine blk_put (cs := #[.int .i64 0, .slice none 0 0]) ?_ 0 _ rfl; (with_reducible repeat (first | refine blk_drewN ?_ _ | refine blk_drew ?_ | refine blk_alloc ?_ _)); exact BK581.out) hb); replace HB := Bs_ HB hb; (try clear hb); (try clear hb2); (try clear hk); (try clear hi); (try clear ho0)) | ((with_reducible refine gate_dst (N := 7) rfl ?_); (try (refine gate_guard (by rfl) ?_; dsimp only)); refine bx_ #[.int .i64 0, .slice none 0 0] 26 ?_ 7; intro gb587 hg w17 hbox hb; replace HO579 := a_ (Kd.R_below (Rl_ HO579.out) hb); replace HO585 := a_ (Kd.R_below (Rl_ HO585.out) hb); have BK587 := a_ (hbox); have GW587 := gw_ HB hg; have GE587 := gw_ HB hg; replace HB := Bs_ HB hb; have NB581_587 := nbl_ BK581 hg; have NB587_581 := nbg_ BK581 hg; replace BK581 := blkB_ BK581 hb; clear hb hbox hg; have hnb18 := NB587_581.out; have hnc18 := NB581_587.out; have hcz19_0 := cz_ (.int .i64 0) BK587 0; have hcz19_1 := cz_ (.slice none 0 0) BK587 1; have hfz19_0 := fz_ BK587 0; have hfz19_1 := fz_ BK587 1; obtain ⟨Ao20, co20, eo20⟩ := Kd.R_slice HO585.out; subst eo20; have hcz21_0 := cz_ (.int .i64 t576) BK581 0; have hcz21_1 := cz_ (.slice Ao15 t577.length co15) BK581 1; have hfz21_0 := fz_ BK581 0; have hfz21_1 := fz_ BK581 1) | ((with_reducible refine gate_callee (f := 7) rfl ?_); refine gm_ (some 86) Try.func7 #[.agg #[.int .i64 t576, .slice Ao15 t577.length co15], .int .i64 t580] rfl ?_; (with_reducible refine (spec_TakeStart.calls k t576 _ _ t577 t580 t588 t589 t592 _ ?side1 ?side2 A7.out).mono ?_); (case side1 => refine (Kd.R_reads' (e := 3) (base := w.heap.size) (ok := fun k_ => (True ∧ some k_ ≠ (.slice Ao20 t583.length co20 : Value).ownBlock)) (n := t577.length) (c := co15) ?_).2.2; exact (Rl_ (Rf2_ HO579.out BK587.out (by decide) (.int .i64 t582) (.slice Ao20 t583.length co20)))); (case side2 => exact (Kd.R_reads' HO579.out).2.1); rintro e w22 ⟨v590, rfl, ho0, hb⟩; refine ⟨_, rfl, ?_⟩; have HO591 := a_ (Kd.R_lower (Kd.R_new' (Kd.R_new' ho0 (Kd.R_lt (Rl_ (Rf2_ HO579.out BK587.out (by decide) (.int .i64 t582) (.slice Ao20 t583.length co20))))) (Kd.R_lt (Rl_ (Rf2_ HO585.out BK587.out (by decide) (.int .i64 t582) (.slice Ao20 t583.length co20))))) (below_size (Bl_ HB))); replace HO579 := a_ (Kd.R_elder' (Rl_ (Rf2_ HO579.out BK587.out (by decide) (.int .i64 t582) (.slice Ao20 t583.length co20))) (Kd.R_base ho0) hb); replace HO585 := a_ (Kd.R_elder' (Rl_ (Rf2_ HO585.out BK587.out (by decide) (.int .i64 t582) (.slice Ao20 t583.length co20))) (Kd.R_base ho0) hb); replace BK581 := blkF_ BK581 NB581_587 hb; replace BK587 := a_ (blk_below (g := gb587) (o := .cells #[.int .i64 t582, .slice Ao20 t583.length co20] 26 (0, 0)) (by (with_reducible repeat (first | refine blk_drewN ?_ _ | refine blk_drew ?_ | refine blk_alloc ?_ _)); refine blk_put (cs := #[.int .i64 t582, .slice none 0 0]) ?_ 1 _ rfl; (with_reducible repeat (first | refine blk_drewN ?_ _ | refine blk_drew ?_ | refine blk_alloc ?_ _)); refine blk_put (cs := #[.int .i64 0, .slice none 0 0]) ?_ 0 _ rfl; (with_reducible repeat (first | refine blk_drewN ?_ _ | refine blk_drew ?_ | refine blk_alloc ?_ _)); exact BK587.out) hb); replace HB := Bs_ HB hb; (try clear hb); (try clear hb2); (try clear hk); (try clear hi); (try clear ho0)) | ((with_reducible refine gate_dst (N := 9) rfl ?_); (try (refine gate_guard (by rfl) ?_; dsimp only)); refine bx_ #[.int .i64 0, .slice none 0 0] 26 ?_ 9; intro gb593 hg w23 hbox hb; replace HO579 := a_ (Kd.R_below (Rl_ HO579.out) hb); replace HO585 := a_ (Kd.R_below (Rl_ HO585.out) hb); replace HO591 := a_ (Kd.R_below (Rl_ HO591.out) hb); have BK593 := a_ (hbox); have GW593 := gw_ HB hg; have GE593 := gw_ HB hg; replace HB := Bs_ HB hb; have NB581_593 := nbl_ BK581 hg; have NB593_581 := nbg_ BK581 hg; replace BK581 := blkB_ BK581 hb; have NB587_593 := nbl_ BK587 hg; have NB593_587 := nbg_ BK587 hg; replace BK587 := blkB_ BK587 hb; clear hb hbox hg; have hnb24 := NB593_581.out; have hnc24 := NB581_593.out; have hnb25 := NB593_587.out; have hnc25 := NB587_593.out; have hcz26_0 := cz_ (.int .i64 0) BK593 0; have hcz26_1 := cz_ (.slice none 0 0) BK593 1; have hfz26_0 := fz_ BK593 0; have hfz26_1 := fz_ BK593 1; obtain ⟨Ao27, co27, eo27⟩ := Kd.R_slice HO591.out; subst eo27; have hcz28_0 := cz_ (.int .i64 t582) BK587 0; have hcz28_1 := cz_ (.slice Ao20 t583.length co20) BK587 1; have hfz28_0 := fz_ BK587 0; have hfz28_1 := fz_ BK587 1) | (go_at_call 8; (with_reducible refine (laws_kLadder.calls k t582 _ _ t583 t588 _ _ t589 true _ ?side1 ?side2 ?side3 ?side4 A9.out).mono ?_); (case side1 => refine (Kd.R_reads' (e := 3) (base := w.heap.size) (ok := fun k_ => ((True ∧ some k_ ≠ (.slice Ao15 t577.length co15 : Value).ownBlock) ∧ some k_ ≠ (.slice Ao27 t589.length co27 : Value).ownBlock)) (n := t583.length) (c := co20) ?_).2.2; exact (Rl_ (Rf2_ HO585.out BK593.out (by decide) (.int .i64 t588) (.slice Ao27 t589.length co27)))); (case side2 => exact (Kd.R_reads' HO585.out).2.1); (case side3 => refine (Kd.R_reads' (e := 3) (base := w.heap.size) (ok := fun k_ => ((True ∧ some k_ ≠ (.slice Ao15 t577.length co15 : Value).ownBlock) ∧ some k_ ≠ (.slice Ao20 t583.length co20 : Value).ownBlock)) (n := t589.length) (c := co27) ?_).2.2; exact (Rl_ (Rf2_ HO591.out BK593.out (by decide) (.int .i64 t588) (.slice Ao27 t589.length co27)))); (case side4 => exact (Kd.R_reads' HO591.out).2.1); rintro e w29 ⟨rfl, hb⟩; replace HO579 := a_ (Kd.R_below (Rl_ (Rf2_ HO579.out BK593.out (by decide) (.int .i64 t588) (.slice Ao27 t589.length co27))) hb); replace HO585 := a_ (Kd.R_below (Rl_ (Rf2_ HO585.out BK593.out (by decide) (.int .i64 t588) (.slice Ao27 t589.length co27))) hb); replace HO591 := a_ (Kd.R_below (Rl_ (Rf2_ HO591.out BK593.out (by decide) (.int .i64 t588) (.slice Ao27 t589.length co27))) hb); replace BK581 := blkF_ BK581 NB581_593 hb; replace BK587 := blkF_ BK587 NB587_593 hb; replace BK593 := a_ (blk_below (g := gb593) (o := .cells #[.int .i64 t588, .slice Ao27 t589.length co27] 26 (0, 0)) (by (with_reducible repeat (first | refine blk_drewN ?_ _ | refine blk_drew ?_ | refine blk_alloc ?_ _)); refine blk_put (cs := #[.int .i64 t588, .slice none 0 0]) ?_ 1 _ rfl; (with_reducible repeat (first | refine blk_drewN ?_ _ | refine blk_drew ?_ | refine blk_alloc ?_ _)); refine blk_put (cs := #[.int .i64 0, .slice none 0 0]) ?_ 0 _ rfl; (with_reducible repeat (first | refine blk_drewN ?_ _ | refine blk_drew ?_ | refine blk_alloc ?_ _)); exact BK593.out) hb); replace HB := Bs_ HB hb; (try clear hb); (try clear hb2); (try clear hk); (try clear hi)))
 (try simp only [Act.put, List.setIfInBounds_toArray, List.set_cons_zero, List.set_cons_succ])
 as_aux_lemma =>
 go_cut [] (fun wc => ∃ (kq : Nat), Aside0 (laws_FnStartsTaken.j3 kq l1 = some r) ∧ Aside0 (kq ≤ k) ∧ Aside0 (Below w.heap.size w wc))
 case first =>
  as_aux_lemma =>
  have H := HC11.out
  clear HC11
  by_cases c30 : t586 = true
  rotate_left
  ·replace c30 := Bool.eq_false_iff.mpr c30
   subst c30
   rw [if_neg (show ¬ (false = true) by decide)] at H
   have H' := a_ H
   clear H
   go_wp2
   go_meet
   case rel => exact ⟨_, H', ⟨by first | omega | exact Nat.le_refl _⟩, ⟨Bl_ HB⟩⟩
  subst c30
  rw [if_pos rfl] at H
  have H' := a_ H
  clear H
  go_wp2
  go_loopg [11, 12] k (fun kq v11 v12 w' => ∃ (x11_1 : List Int) (x12_1 : Int), v12 = .int .i64 x12_1 ∧ Aside0 (laws_FnStartsTaken.l0 kq l1 t580 x11_1 x12_1 t576 t577 t582 t583 = some r) ∧ Aside0 (kq ≤ k) ∧ Aside0 (Kd.R (Kd.int .i64) 3 w' w.heap.size (fun k_ => some k_ ≠ ((.slice Ao15 t577.length co15) : Value).ownBlock ∧ some k_ ≠ ((.slice Ao20 t583.length co20) : Value).ownBlock) v11 x11_1) ∧ Aside0 (Kd.R (Kd.int .i64) 3 w' w.heap.size (fun k_ => some k_ ≠ (v11 : Value).ownBlock ∧ some k_ ≠ ((.slice Ao20 t583.length co20) : Value).ownBlock) (.slice Ao15 t577.length co15) t577) ∧ Aside0 (Kd.R (Kd.int .i64) 3 w' w.heap.size (fun k_ => some k_ ≠ (v11 : Value).ownBlock ∧ some k_ ≠ ((.slice Ao15 t577.length co15) : Value).ownBlock) (.slice Ao20 t583.length co20) t583) ∧ Aside0 (w'.heap[gb581]? = some (.cells #[.int .i64 t576, (.slice Ao15 t577.length co15)] 26 (0, 0))) ∧ Aside0 (w'.heap[gb587]? = some (.cells #[.int .i64 t582, (.slice Ao20 t583.length co20)] 26 (0, 0))) ∧ Aside0 (Below w.heap.size w w'))
  case atStart => exact ⟨(([] : List Int)), (0), rs_, H', ⟨Nat.le_refl _⟩, ⟨by first | exact Kd.R_nil _ _ _ _ _ | exact Kd.N_nil _ _ _ _ _ | exact Kd.V_nil _ _ _ _ _ | exact Kd.Q_nil _ _ _ _ _ | exact Kd.S_nil _ _ _ _ _⟩, ⟨Rl_ (Kd.R_mono HO579.out (fun _ hk => ⟨(by simp [Value.ownBlock]), hk.1.2⟩))⟩, ⟨Rl_ (Kd.R_mono HO585.out (fun _ hk => ⟨(by simp [Value.ownBlock]), hk.1.2⟩))⟩, ⟨bl_ BK581⟩, ⟨bl_ BK587⟩, ⟨Bl_ HB⟩⟩
  case round =>
   as_aux_lemma =>
   clear H'
   try clear c1
   try clear c2
   try clear p2
   try clear c3
   try clear c4
   try clear c5
   try clear c6
   try clear c7
   try clear c8
   try clear c8b0
   try clear c8b1
   try clear c8b2
   try clear c10
   try clear c18
   try clear c24
   try clear c25
   try clear c30
   try clear hcz14_0
   try clear hcz14_1
   try clear hcz19_0
   try clear hcz19_1
   try clear hcz21_0
   try clear hcz21_1
   try clear hcz26_0
   try clear hcz26_1
   try clear hcz28_0
   try clear hcz28_1
   try clear hfz14_0
   try clear hfz14_1
   try clear hfz19_0
   try clear hfz19_1
   try clear hfz21_0
   try clear hfz21_1
   try clear hfz26_0
   try clear hfz26_1
   try clear hfz28_0
   try clear hfz28_1
   obtain ⟨x11_1, x12_1, rfl, HA, HK1, HO_11, HO_582001, HO_588001, BK581, BK587, HB⟩ := hrel
   cases gk with
   | zero => exact absurd HA.out (by simp [laws_FnStartsTaken.l0])
   | succ k1 =>
    have H := HA.out
    clear HA
    simp only [laws_FnStartsTaken.l0] at H
    by_cases c31 : x12_1 < t576
    ·rw [if_pos c31] at H
     have c31b0 : decide (x12_1 < t576) = true := decide_eq_true c31
     clear c31
     (first | rw [c31b0] | (simp only [i64_w, i32_w]; rw [c31b0]) | skip)
     by_cases c32 : x12_1 = t580
     ·rw [if_pos c32] at H
      have c32b0 : (x12_1 == t580) = true := beq_iff_eq.mpr c32
      have c32b1 : (x12_1 != t580) = false := bne_eq_false_iff_eq.mpr c32
      clear c32
      have H' := a_ H
      clear H
      have hnb33 := NB581_587.out
      have hnc33 := NB587_581.out
      have hcz34_0 : wr.cell? ⟨gb581, 0, none⟩ = some (.int .i64 t576) := (blk_cell BK581.out 0).trans rfl
      have hcz34_1 : wr.cell? ⟨gb581, 1, none⟩ = some (.slice Ao15 t577.length co15) := (blk_cell BK581.out 1).trans rfl
      have hfz34_0 := fz_ BK581 0
      have hfz34_1 := fz_ BK581 1
      go_wp2
      go_roundg k1
      case measure => have := HK1.out; omega
      case rel => exact ⟨(x11_1), (wrap64 (x12_1 + 1)), rs_, H', ⟨by have := HK1.out; omega⟩, ⟨Rl_ HO_11.out⟩, ⟨Rl_ HO_582001.out⟩, ⟨Rl_ HO_588001.out⟩, ⟨bl_ BK581⟩, ⟨bl_ BK587⟩, ⟨Bl_ HB⟩⟩
     rw [if_neg c32] at H
     have c32b0 : (x12_1 == t580) = false := beq_eq_false_iff_ne.mpr c32
     have c32b1 : (x12_1 != t580) = true := bne_iff_ne.mpr c32
     by_cases c35 : x11_1.length < 17592186044416
     rotate_left
     ·rw [if_neg c35] at H
      cases H
     rw [if_pos c35] at H
     have LMc35 := a_ c35
     clear c35
     obtain ⟨y595, hy595⟩ : ∃ y_ : List Int, y_ = (x11_1 ++ [x12_1]) := ⟨_, rfl⟩
     replace H : (laws_FnStartsTaken.l0 k1 l1 t580 y595 (wrap64 (x12_1 + 1)) t576 t577 t582 t583) = some r := by first | (rw [hy595]; with_reducible exact H) | (have H2_ := (Option.bind_some _ _).symm.trans H; rw [hy595]; with_reducible exact H2_) | (have H2_ := (Option.bind_some _ _).symm.trans H; with_reducible exact H2_) | with_reducible exact H | (rw [hy595]; exact H) | exact H
     have Ny595 := a_ hy595
     clear hy595
     have H' := a_ H
     clear H
     have hnb36 := NB581_587.out
     have hnc36 := NB587_581.out
     have hcz37_0 : wr.cell? ⟨gb581, 0, none⟩ = some (.int .i64 t576) := (blk_cell BK581.out 0).trans rfl
     have hcz37_1 : wr.cell? ⟨gb581, 1, none⟩ = some (.slice Ao15 t577.length co15) := (blk_cell BK581.out 1).trans rfl
     have hfz37_0 := fz_ BK581 0
     have hfz37_1 := fz_ BK581 1
     go_wp2_with (first | ((with_reducible refine gate_builtin (b := .append) (xs := #[.tmp 108, .tmp 110]) rfl ?_); (try (refine gate_guard (by rfl) ?_; dsimp only)); at_builtin; refine Kd.R_append (Kd.int .i64) (w0 := w) w.heap.size rfl (.tmp 108) (.tmp 110) 24 3 (.int .i64 0) 8 rfl Try.underlying24 info3 rfl (by decide) (by omega) u11 x11_1 x12_1 [.int .i64 x12_1] (fun k_ => some k_ ≠ (.slice Ao15 t577.length co15 : Value).ownBlock ∧ some k_ ≠ (.slice Ao20 t583.length co20 : Value).ownBlock) (fun _ => False) rfl rfl ?aP (fun _ hk => hk.elim) ?aF ?aO ?aB ?aS ?aL ?_; (case aP => exact rfl); (case aB => exact (Bl_ HB)); (case aF => exact (fun k_ hk => ⟨Kd.fresh' (Kd.R_lt (Rl_ HO_582001.out)) k_ hk, Kd.fresh' (Kd.R_lt (Rl_ HO_588001.out)) k_ hk⟩)); (case aO => exact (Rl_ HO_11.out)); (case aS => exact (below_size (Bl_ HB))); (case aL => have := LMc35.out; omega); intro v596 w38 ho hb hg hat; rw [← Ny595.out] at ho; replace HO_582001 := a_ (Kd.R_after (ok := (fun k_ => some k_ ≠ (.slice Ao20 t583.length co20 : Value).ownBlock)) (Rl_ (Kd.R_mono HO_582001.out (fun _ hk => ⟨hk.2, hk.1⟩))) hg hat); replace HO_588001 := a_ (Kd.R_after (ok := (fun k_ => some k_ ≠ (.slice Ao15 t577.length co15 : Value).ownBlock)) (Rl_ (Kd.R_mono HO_588001.out (fun _ hk => ⟨hk.2, hk.1⟩))) hg hat); replace BK581 := a_ (blk_grown (g := gb581) (o := .cells #[.int .i64 t576, .slice Ao15 t577.length co15] 26 (0, 0)) (bl_ BK581) hg (Kd.R_ne HO_11.out BK581.out (by decide))); replace BK587 := a_ (blk_grown (g := gb587) (o := .cells #[.int .i64 t582, .slice Ao20 t583.length co20] 26 (0, 0)) (bl_ BK587) hg (Kd.R_ne HO_11.out BK587.out (by decide))); replace HB := a_ (hb); have HO597 := a_ (ho); clear HO_11; clear ho hb hg hat))
     go_roundg k1
     case measure => have := HK1.out; omega
     case rel => exact ⟨(y595), (wrap64 (x12_1 + 1)), rs_, H', ⟨by have := HK1.out; omega⟩, ⟨Rl_ HO597.out⟩, ⟨Rl_ (Kd.R_mono HO_582001.out (fun _ hk => ⟨hk.2, hk.1⟩))⟩, ⟨Rl_ (Kd.R_mono HO_588001.out (fun _ hk => ⟨hk.2, hk.1⟩))⟩, ⟨bl_ BK581⟩, ⟨bl_ BK587⟩, ⟨Bl_ HB⟩⟩
    as_aux_lemma =>
    rw [if_neg c31] at H
    have c31b0 : decide (x12_1 < t576) = false := decide_eq_false c31
    clear c31
    (first | rw [c31b0] | (simp only [i64_w, i32_w]; rw [c31b0]) | skip)
    obtain ⟨t598, A39, H⟩ := ob_ H
    (try dsimp only at H)
    obtain ⟨⟨t601, t602⟩, A40, H⟩ := ob_ H
    (try dsimp only at H)
    obtain ⟨⟨t605, t608⟩, A41, H⟩ := ob_ H
    (try dsimp only at H)
    obtain ⟨⟨t609, t610, t613⟩, A42, H⟩ := ob_ H
    (try dsimp only at H)
    by_cases c43 : t602 = true
    rotate_left
    ·replace c43 := Bool.eq_false_iff.mpr c43
     subst c43
     rw [if_neg (show ¬ (false = true) by decide)] at H
     cases H
    subst c43
    rw [if_pos rfl] at H
    obtain ⟨t615, A44, H⟩ := ob_ H
    (try dsimp only at H)
    obtain ⟨t618, A45, H⟩ := ob_ H
    (try dsimp only at H)
    by_cases c46 : t618 = true
    rotate_left
    ·replace c46 := Bool.eq_false_iff.mpr c46
     subst c46
     rw [if_neg (show ¬ (false = true) by decide)] at H
     cases H
    subst c46
    rw [if_pos rfl] at H
    by_cases c47 : t608 = true
    rotate_left
    ·replace c47 := Bool.eq_false_iff.mpr c47
     subst c47
     rw [if_neg (show ¬ (false = true) by decide)] at H
     cases H
    subst c47
    rw [if_pos rfl] at H
    by_cases c48 : (t583.length : Int) = (wrap64 ((t577.length : Int) - (t605.length : Int)))
    rotate_left
    ·rw [if_neg c48] at H
     cases H
    rw [if_pos c48] at H
    have c48b0 : ((t583.length : Int) == (wrap64 ((t577.length : Int) - (t605.length : Int)))) = true := beq_iff_eq.mpr c48
    have c48b1 : ((t583.length : Int) != (wrap64 ((t577.length : Int) - (t605.length : Int)))) = false := bne_eq_false_iff_eq.mpr c48
    clear c48
    by_cases c49 : t613 = true
    rotate_left
    ·replace c49 := Bool.eq_false_iff.mpr c49
     subst c49
     rw [if_neg (show ¬ (false = true) by decide)] at H
     cases H
    subst c49
    rw [if_pos rfl] at H
    obtain ⟨t619, A50, H⟩ := ob_ H
    (try dsimp only at H)
    by_cases c51 : t619 = true
    rotate_left
    ·replace c51 := Bool.eq_false_iff.mpr c51
     subst c51
     rw [if_neg (show ¬ (false = true) by decide)] at H
     cases H
    subst c51
    rw [if_pos rfl] at H
    have H' := a_ H
    clear H
    have hnb52 := NB581_587.out
    have hnc52 := NB587_581.out
    have hcz53_0 : wr.cell? ⟨gb581, 0, none⟩ = some (.int .i64 t576) := (blk_cell BK581.out 0).trans rfl
    have hcz53_1 : wr.cell? ⟨gb581, 1, none⟩ = some (.slice Ao15 t577.length co15) := (blk_cell BK581.out 1).trans rfl
    have hfz53_0 := fz_ BK581 0
    have hfz53_1 := fz_ BK581 1
    go_wp2_with (first | ((with_reducible refine gate_callee (f := 10) rfl ?_); refine gm_ (some 114) Try.func10 #[.agg #[.int .i64 t576, .slice Ao15 t577.length co15]] rfl ?_; (with_reducible refine (laws_kResult.calls k1 t576 _ _ t577 t598 _ ?side1 ?side2 A39.out).mono ?_); (case side1 => exact Cl_ (Kd.R_reads' HO_582001.out).2.2); (case side2 => exact (Kd.R_reads' HO_582001.out).2.1); rintro e w54 ⟨v599, rfl, ho0, hb⟩; refine ⟨_, rfl, ?_⟩; have HO600 := a_ (Kd.R_lower (Kd.R_new' (Kd.R_new' (Kd.R_new' ho0 (Kd.R_lt (Rl_ HO_11.out))) (Kd.R_lt (Rl_ HO_582001.out))) (Kd.R_lt (Rl_ HO_588001.out))) (below_size (Bl_ HB))); replace HO_11 := a_ (Kd.R_elder' (Rl_ HO_11.out) (Kd.R_base ho0) hb); replace HO_582001 := a_ (Kd.R_elder' (Rl_ HO_582001.out) (Kd.R_base ho0) hb); replace HO_588001 := a_ (Kd.R_elder' (Rl_ HO_588001.out) (Kd.R_base ho0) hb); replace BK581 := blkB_ BK581 hb; replace BK587 := blkB_ BK587 hb; replace HB := Bs_ HB hb; (try clear hb); (try clear hb2); (try clear hk); (try clear hi); (try clear ho0); obtain ⟨Ao55, co55, eo55⟩ := Kd.R_slice HO600.out; subst eo55; obtain ⟨Ao56, co56, eo56⟩ := Kd.R_slice HO_11.out; subst eo56) | ((with_reducible refine gate_callee (f := 9) rfl ?_); refine gm_ (some 116) Try.func9 #[.slice Ao55 t598.length co55, .slice Ao56 x11_1.length co56] rfl ?_; (with_reducible refine (impl_PatternOf.calls k1 _ _ t598 _ _ x11_1 t601 true _ ?side1 ?side2 ?side3 ?side4 A40.out).mono ?_); (case side1 => exact Cl_ (Kd.R_reads' HO600.out).2.2); (case side2 => exact (Kd.R_reads' HO600.out).2.1); (case side3 => exact Cl_ (Kd.R_reads' HO_11.out).2.2); (case side4 => exact (Kd.R_reads' HO_11.out).2.1); rintro e w57 ⟨v603, rfl, ho0, hb⟩; refine ⟨_, rfl, ?_⟩; have HO604 := a_ (Kd.R_lower (Kd.R_new' (Kd.R_new' (Kd.R_new' (Kd.R_new' ho0 (Kd.R_lt (Rl_ HO_11.out))) (Kd.R_lt (Rl_ HO_582001.out))) (Kd.R_lt (Rl_ HO_588001.out))) (Kd.R_lt (Rl_ HO600.out))) (below_size (Bl_ HB))); replace HO_11 := a_ (Kd.R_elder' (Rl_ HO_11.out) (Kd.R_base ho0) hb); replace HO_582001 := a_ (Kd.R_elder' (Rl_ HO_582001.out) (Kd.R_base ho0) hb); replace HO_588001 := a_ (Kd.R_elder' (Rl_ HO_588001.out) (Kd.R_base ho0) hb); replace HO600 := a_ (Kd.R_elder' (Rl_ HO600.out) (Kd.R_base ho0) hb); replace BK581 := blkB_ BK581 hb; replace BK587 := blkB_ BK587 hb; replace HB := Bs_ HB hb; (try clear hb); (try clear hb2); (try clear hk); (try clear hi); (try clear ho0); have hcz58_0 := cz_ (.int .i64 t576) BK581 0; have hcz58_1 := cz_ (.slice Ao15 t577.length co15) BK581 1; have hfz58_0 := fz_ BK581 0; have hfz58_1 := fz_ BK581 1) | ((with_reducible refine gate_callee (f := 11) rfl ?_); refine gm_ (some 122) Try.func11 #[.agg #[.int .i64 t576, .slice Ao15 t577.length co15], .int .i64 t580] rfl ?_; (with_reducible refine (impl_RungsUsed.calls k1 t576 _ _ t577 t580 t605 true _ ?side1 ?side2 A41.out).mono ?_); (case side1 => exact Cl_ (Kd.R_reads' HO_582001.out).2.2); (case side2 => exact (Kd.R_reads' HO_582001.out).2.1); rintro e w59 ⟨v606, rfl, ho0, hb⟩; refine ⟨_, rfl, ?_⟩; have HO607 := a_ (Kd.R_lower (Kd.R_new' (Kd.R_new' (Kd.R_new' (Kd.R_new' (Kd.R_new' ho0 (Kd.R_lt (Rl_ HO_11.out))) (Kd.R_lt (Rl_ HO_582001.out))) (Kd.R_lt (Rl_ HO_588001.out))) (Kd.R_lt (Rl_ HO600.out))) (Kd.R_lt (Rl_ HO604.out))) (below_size (Bl_ HB))); replace HO_11 := a_ (Kd.R_elder' (Rl_ HO_11.out) (Kd.R_base ho0) hb); replace HO_582001 := a_ (Kd.R_elder' (Rl_ HO_582001.out) (Kd.R_base ho0) hb); replace HO_588001 := a_ (Kd.R_elder' (Rl_ HO_588001.out) (Kd.R_base ho0) hb); replace HO600 := a_ (Kd.R_elder' (Rl_ HO600.out) (Kd.R_base ho0) hb); replace HO604 := a_ (Kd.R_elder' (Rl_ HO604.out) (Kd.R_base ho0) hb); replace BK581 := blkB_ BK581 hb; replace BK587 := blkB_ BK587 hb; replace HB := Bs_ HB hb; (try clear hb); (try clear hb2); (try clear hk); (try clear hi); (try clear ho0); have hcz60_0 := cz_ (.int .i64 t576) BK581 0; have hcz60_1 := cz_ (.slice Ao15 t577.length co15) BK581 1; have hfz60_0 := fz_ BK581 0; have hfz60_1 := fz_ BK581 1) | ((with_reducible refine gate_callee (f := 12) rfl ?_); refine gm_ (some 128) Try.func12 #[.agg #[.int .i64 t576, .slice Ao15 t577.length co15], .slice Ao56 x11_1.length co56] rfl ?_; (with_reducible refine (impl_KeepStarts.calls k1 t576 _ _ t577 _ _ x11_1 t609 t610 true _ ?side1 ?side2 ?side3 ?side4 A42.out).mono ?_); (case side1 => exact Cl_ (Kd.R_reads' HO_582001.out).2.2); (case side2 => exact (Kd.R_reads' HO_582001.out).2.1); (case side3 => exact Cl_ (Kd.R_reads' HO_11.out).2.2); (case side4 => exact (Kd.R_reads' HO_11.out).2.1); rintro e w61 ⟨v611, rfl, ho0, hb⟩; refine ⟨_, rfl, ?_⟩; have HO612 := a_ (Kd.R_lower (Kd.R_new' (Kd.R_new' (Kd.R_new' (Kd.R_new' (Kd.R_new' (Kd.R_new' ho0 (Kd.R_lt (Rl_ HO_11.out))) (Kd.R_lt (Rl_ HO_582001.out))) (Kd.R_lt (Rl_ HO_588001.out))) (Kd.R_lt (Rl_ HO600.out))) (Kd.R_lt (Rl_ HO604.out))) (Kd.R_lt (Rl_ HO607.out))) (below_size (Bl_ HB))); replace HO_11 := a_ (Kd.R_elder' (Rl_ HO_11.out) (Kd.R_base ho0) hb); replace HO_582001 := a_ (Kd.R_elder' (Rl_ HO_582001.out) (Kd.R_base ho0) hb); replace HO_588001 := a_ (Kd.R_elder' (Rl_ HO_588001.out) (Kd.R_base ho0) hb); replace HO600 := a_ (Kd.R_elder' (Rl_ HO600.out) (Kd.R_base ho0) hb); replace HO604 := a_ (Kd.R_elder' (Rl_ HO604.out) (Kd.R_base ho0) hb); replace HO607 := a_ (Kd.R_elder' (Rl_ HO607.out) (Kd.R_base ho0) hb); replace BK581 := blkB_ BK581 hb; replace BK587 := blkB_ BK587 hb; replace HB := Bs_ HB hb; (try clear hb); (try clear hb2); (try clear hk); (try clear hi); (try clear ho0)) | ((with_reducible refine gate_dst (N := 17) rfl ?_); (try (refine gate_guard (by rfl) ?_; dsimp only)); refine bx_ #[.int .i64 0, .slice none 0 0] 26 ?_ 17; intro gb614 hg w62 hbox hb; replace HO_11 := a_ (Kd.R_below (Rl_ HO_11.out) hb); replace HO_582001 := a_ (Kd.R_below (Rl_ HO_582001.out) hb); replace HO_588001 := a_ (Kd.R_below (Rl_ HO_588001.out) hb); replace HO600 := a_ (Kd.R_below (Rl_ HO600.out) hb); replace HO604 := a_ (Kd.R_below (Rl_ HO604.out) hb); replace HO607 := a_ (Kd.R_below (Rl_ HO607.out) hb); replace HO612 := a_ (Kd.R_below (Rl_ HO612.out) hb); have BK614 := a_ (hbox); have GW614 := gw_ HB hg; have GE614 := gw_ HB hg; replace HB := Bs_ HB hb; have NB581_614 := nbl_ BK581 hg; have NB614_581 := nbg_ BK581 hg; replace BK581 := blkB_ BK581 hb; have NB587_614 := nbl_ BK587 hg; have NB614_587 := nbg_ BK587 hg; replace BK587 := blkB_ BK587 hb; clear hb hbox hg; have hnb63 := NB614_581.out; have hnc63 := NB581_614.out; have hnb64 := NB614_587.out; have hnc64 := NB587_614.out; have hcz65_0 := cz_ (.int .i64 0) BK614 0; have hcz65_1 := cz_ (.slice none 0 0) BK614 1; have hfz65_0 := fz_ BK614 0; have hfz65_1 := fz_ BK614 1; obtain ⟨Ao66, co66, eo66⟩ := Kd.R_slice HO612.out; subst eo66; have hcz67_0 := cz_ (.int .i64 t582) BK587 0; have hcz67_1 := cz_ (.slice Ao20 t583.length co20) BK587 1; have hfz67_0 := fz_ BK587 0; have hfz67_1 := fz_ BK587 1) | (go_at_call 10; (with_reducible refine (laws_kResult.calls k1 t582 _ _ t583 t615 _ ?side1 ?side2 A44.out).mono ?_); (case side1 => refine (Kd.R_reads' (e := 3) (base := w.heap.size) (ok := fun k_ => (((((some k_ ≠ (.slice Ao56 x11_1.length co56 : Value).ownBlock ∧ some k_ ≠ (.slice Ao15 t577.length co15 : Value).ownBlock) ∧ some k_ ≠ (.slice Ao55 t598.length co55 : Value).ownBlock) ∧ some k_ ≠ (v603 : Value).ownBlock) ∧ some k_ ≠ (v606 : Value).ownBlock) ∧ some k_ ≠ (.slice Ao66 t610.length co66 : Value).ownBlock)) (n := t583.length) (c := co20) ?_).2.2; exact (Rl_ (Rf2_ HO_588001.out BK614.out (by decide) (.int .i64 t609) (.slice Ao66 t610.length co66)))); (case side2 => exact (Kd.R_reads' HO_588001.out).2.1); rintro e w68 ⟨v616, rfl, ho0, hb⟩; have HO617 := a_ (Kd.R_lower (Kd.R_new' (Kd.R_new' (Kd.R_new' (Kd.R_new' (Kd.R_new' (Kd.R_new' (Kd.R_new' ho0 (Kd.R_lt (Rl_ (Rf2_ HO_11.out BK614.out (by decide) (.int .i64 t609) (.slice Ao66 t610.length co66))))) (Kd.R_lt (Rl_ (Rf2_ HO_582001.out BK614.out (by decide) (.int .i64 t609) (.slice Ao66 t610.length co66))))) (Kd.R_lt (Rl_ (Rf2_ HO_588001.out BK614.out (by decide) (.int .i64 t609) (.slice Ao66 t610.length co66))))) (Kd.R_lt (Rl_ (Rf2_ HO600.out BK614.out (by decide) (.int .i64 t609) (.slice Ao66 t610.length co66))))) (Kd.R_lt (Rl_ (Rf2_ HO604.out BK614.out (by decide) (.int .i64 t609) (.slice Ao66 t610.length co66))))) (Kd.R_lt (Rl_ (Rf2_ HO607.out BK614.out (by decide) (.int .i64 t609) (.slice Ao66 t610.length co66))))) (Kd.R_lt (Rl_ (Rf2_ HO612.out BK614.out (by decide) (.int .i64 t609) (.slice Ao66 t610.length co66))))) (below_size (Bl_ HB))); replace HO_11 := a_ (Kd.R_elder' (Rl_ (Rf2_ HO_11.out BK614.out (by decide) (.int .i64 t609) (.slice Ao66 t610.length co66))) (Kd.R_base ho0) hb); replace HO_582001 := a_ (Kd.R_elder' (Rl_ (Rf2_ HO_582001.out BK614.out (by decide) (.int .i64 t609) (.slice Ao66 t610.length co66))) (Kd.R_base ho0) hb); replace HO_588001 := a_ (Kd.R_elder' (Rl_ (Rf2_ HO_588001.out BK614.out (by decide) (.int .i64 t609) (.slice Ao66 t610.length co66))) (Kd.R_base ho0) hb); replace HO600 := a_ (Kd.R_elder' (Rl_ (Rf2_ HO600.out BK614.out (by decide) (.int .i64 t609) (.slice Ao66 t610.length co66))) (Kd.R_base ho0) hb); replace HO604 := a_ (Kd.R_elder' (Rl_ (Rf2_ HO604.out BK614.out (by decide) (.int .i64 t609) (.slice Ao66 t610.length co66))) (Kd.R_base ho0) hb); replace HO607 := a_ (Kd.R_elder' (Rl_ (Rf2_ HO607.out BK614.out (by decide) (.int .i64 t609) (.slice Ao66 t610.length co66))) (Kd.R_base ho0) hb); replace HO612 := a_ (Kd.R_elder' (Rl_ (Rf2_ HO612.out BK614.out (by decide) (.int .i64 t609) (.slice Ao66 t610.length co66))) (Kd.R_base ho0) hb); replace BK581 := blkF_ BK581 NB581_614 hb; replace BK587 := blkF_ BK587 NB587_614 hb; replace BK614 := a_ (blk_below (g := gb614) (o := .cells #[.int .i64 t609, .slice Ao66 t610.length co66] 26 (0, 0)) (by (with_reducible repeat (first | refine blk_drewN ?_ _ | refine blk_drew ?_ | refine blk_alloc ?_ _)); refine blk_put (cs := #[.int .i64 t609, .slice none 0 0]) ?_ 1 _ rfl; (with_reducible repeat (first | refine blk_drewN ?_ _ | refine blk_drew ?_ | refine blk_alloc ?_ _)); refine blk_put (cs := #[.int .i64 0, .slice none 0 0]) ?_ 0 _ rfl; (with_reducible repeat (first | refine blk_drewN ?_ _ | refine blk_drew ?_ | refine blk_alloc ?_ _)); exact BK614.out) hb); replace HB := Bs_ HB hb; (try clear hb); (try clear hb2); (try clear hk); (try clear hi); (try clear ho0); obtain ⟨Ao69, co69, eo69⟩ := Kd.R_slice HO617.out; subst eo69; obtain ⟨Ao70, co70, eo70⟩ := Kd.R_slice HO604.out; subst eo70) | (go_at_call 13; (with_reducible refine (laws_kSame.calls k1 _ _ t615 _ _ t601 true _ ?side1 ?side2 ?side3 ?side4 A45.out).mono ?_); (case side1 => exact Cl_ (Kd.R_reads' HO617.out).2.2); (case side2 => exact (Kd.R_reads' HO617.out).2.1); (case side3 => exact Cl_ (Kd.R_reads' HO604.out).2.2); (case side4 => exact (Kd.R_reads' HO604.out).2.1); rintro e w' ⟨rfl, ⟨nd, rfl⟩⟩; have hcz71_0 := cz_ (.int .i64 t582) BK587 0; have hcz71_1 := cz_ (.slice Ao20 t583.length co20) BK587 1; have hfz71_0 := fz_ BK587 0; have hfz71_1 := fz_ BK587 1; have hcz72_0 := cz_ (.int .i64 t576) BK581 0; have hcz72_1 := cz_ (.slice Ao15 t577.length co15) BK581 1; have hfz72_0 := fz_ BK581 0; have hfz72_1 := fz_ BK581 1; obtain ⟨Ao73, co73, eo73⟩ := Kd.R_slice HO607.out; subst eo73; have hcz74_0 := cz_ (.int .i64 t609) BK614 0; have hcz74_1 := cz_ (.slice Ao66 t610.length co66) BK614 1; have hfz74_0 := fz_ BK614 0; have hfz74_1 := fz_ BK614 1) | (go_at_call 8; (with_reducible refine (laws_kLadder.calls k1 t609 _ _ t610 t582 _ _ t583 true _ ?side1 ?side2 ?side3 ?side4 A50.out).mono ?_); (case side1 => exact Cl_ (Kd.R_reads' HO612.out).2.2); (case side2 => exact (Kd.R_reads' HO612.out).2.1); (case side3 => exact Cl_ (Kd.R_reads' HO_588001.out).2.2); (case side4 => exact (Kd.R_reads' HO_588001.out).2.1); rintro e w75 ⟨rfl, hb⟩; replace HO_11 := a_ (Kd.R_below (Rl_ HO_11.out) hb); replace HO_582001 := a_ (Kd.R_below (Rl_ HO_582001.out) hb); replace HO_588001 := a_ (Kd.R_below (Rl_ HO_588001.out) hb); replace HO600 := a_ (Kd.R_below (Rl_ HO600.out) hb); replace HO604 := a_ (Kd.R_below (Rl_ HO604.out) hb); replace HO607 := a_ (Kd.R_below (Rl_ HO607.out) hb); replace HO612 := a_ (Kd.R_below (Rl_ HO612.out) hb); replace HO617 := a_ (Kd.R_below (Rl_ HO617.out) hb); replace BK581 := blkB_ BK581 hb; replace BK587 := blkB_ BK587 hb; replace BK614 := blkB_ BK614 hb; replace HB := Bs_ HB hb; (try clear hb); (try clear hb2); (try clear hk); (try clear hi)))
    as_aux_lemma =>
    go_loopg [168] k1 (fun kq v168 w' => ∃ (x168_2 : Int), v168 = .int .i64 x168_2 ∧ Aside0 (laws_FnStartsTaken.l1 kq l1 x11_1 x11_1 (x11_1.length : Int) x168_2 t576 t577 t582 t583 = some r) ∧ Aside0 (kq ≤ k1) ∧ Aside0 (Kd.R (Kd.int .i64) 3 w' w.heap.size (fun k_ => some k_ ≠ ((.slice Ao15 t577.length co15) : Value).ownBlock ∧ some k_ ≠ ((.slice Ao20 t583.length co20) : Value).ownBlock) (.slice Ao56 x11_1.length co56) x11_1) ∧ Aside0 (Kd.R (Kd.int .i64) 3 w' w.heap.size (fun k_ => some k_ ≠ ((.slice Ao15 t577.length co15) : Value).ownBlock ∧ some k_ ≠ ((.slice Ao20 t583.length co20) : Value).ownBlock) (.slice Ao56 x11_1.length co56) x11_1) ∧ Aside0 (Kd.R (Kd.int .i64) 3 w' w.heap.size (fun k_ => some k_ ≠ ((.slice Ao56 x11_1.length co56) : Value).ownBlock ∧ some k_ ≠ ((.slice Ao56 x11_1.length co56) : Value).ownBlock ∧ some k_ ≠ ((.slice Ao20 t583.length co20) : Value).ownBlock) (.slice Ao15 t577.length co15) t577) ∧ Aside0 (Kd.R (Kd.int .i64) 3 w' w.heap.size (fun k_ => some k_ ≠ ((.slice Ao56 x11_1.length co56) : Value).ownBlock ∧ some k_ ≠ ((.slice Ao56 x11_1.length co56) : Value).ownBlock ∧ some k_ ≠ ((.slice Ao15 t577.length co15) : Value).ownBlock) (.slice Ao20 t583.length co20) t583) ∧ Aside0 (w'.heap[gb581]? = some (.cells #[.int .i64 t576, (.slice Ao15 t577.length co15)] 26 (0, 0))) ∧ Aside0 (w'.heap[gb587]? = some (.cells #[.int .i64 t582, (.slice Ao20 t583.length co20)] 26 (0, 0))) ∧ Aside0 (Below w.heap.size w w'))
    case atStart => exact ⟨(0), rs_, H', ⟨Nat.le_refl _⟩, ⟨Rl_ (Kd.R_mono HO_11.out (fun _ hk => ⟨hk.1.1.1.1.1.1, hk.1.1.1.1.1.2⟩))⟩, ⟨Rl_ (Kd.R_mono HO_11.out (fun _ hk => ⟨hk.1.1.1.1.1.1, hk.1.1.1.1.1.2⟩))⟩, ⟨Rl_ (Kd.R_mono HO_582001.out (fun _ hk => ⟨hk.1.1.1.1.1.1, ⟨hk.1.1.1.1.1.1, hk.1.1.1.1.1.2⟩⟩))⟩, ⟨Rl_ (Kd.R_mono HO_588001.out (fun _ hk => ⟨hk.1.1.1.1.1.1, ⟨hk.1.1.1.1.1.1, hk.1.1.1.1.1.2⟩⟩))⟩, ⟨bl_ BK581⟩, ⟨bl_ BK587⟩, ⟨Bl_ HB⟩⟩
    case round =>
     as_aux_lemma =>
     clear H'
     try clear c1
     try clear c2
     try clear p2
     try clear c3
     try clear c4
     try clear c5
     try clear c6
     try clear p6
     try clear c7
     try clear c8
     try clear c8b0
     try clear c8b1
     try clear c8b2
     try clear c9
     try clear c10
     try clear c11
     try clear c12
     try clear c18
     try clear c24
     try clear c25
     try clear c30
     try clear c31
     try clear c31b0
     try clear c32
     try clear c32b0
     try clear c32b1
     try clear c33
     try clear c35
     try clear c36
     try clear c43
     try clear c46
     try clear c47
     try clear c48
     try clear c48b0
     try clear c48b1
     try clear c49
     try clear c51
     try clear c52
     try clear c63
     try clear c64
     try clear p64
     try clear hcz14_0
     try clear hcz14_1
     try clear hcz19_0
     try clear hcz19_1
     try clear hcz21_0
     try clear hcz21_1
     try clear hcz26_0
     try clear hcz26_1
     try clear hcz28_0
     try clear hcz28_1
     try clear hcz34_0
     try clear hcz34_1
     try clear hcz37_0
     try clear hcz37_1
     try clear hcz53_0
     try clear hcz53_1
     try clear hcz58_0
     try clear hcz58_1
     try clear hcz60_0
     try clear hcz60_1
     try clear hcz65_0
     try clear hcz65_1
     try clear hcz67_0
     try clear hcz67_1
     try clear hcz71_0
     try clear hcz71_1
     try clear hcz72_0
     try clear hcz72_1
     try clear hcz74_0
     try clear hcz74_1
     try clear hfz14_0
     try clear hfz14_1
     try clear hfz19_0
     try clear hfz19_1
     try clear hfz21_0
     try clear hfz21_1
     try clear hfz26_0
     try clear hfz26_1
     try clear hfz28_0
     try clear hfz28_1
     try clear hfz34_0
     try clear hfz34_1
     try clear hfz37_0
     try clear hfz37_1
     try clear hfz53_0
     try clear hfz53_1
     try clear hfz58_0
     try clear hfz58_1
     try clear hfz60_0
     try clear hfz60_1
     try clear hfz65_0
     try clear hfz65_1
     try clear hfz67_0
     try clear hfz67_1
     try clear hfz71_0
     try clear hfz71_1
     try clear hfz72_0
     try clear hfz72_1
     try clear hfz74_0
     try clear hfz74_1
     try clear p2
     obtain ⟨x168_2, rfl, HA, HK2, HO_11, HO_166, HO_582001, HO_588001, BK581, BK587, HB⟩ := hrel
     cases gk with
     | zero => exact absurd HA.out (by simp [laws_FnStartsTaken.l1])
     | succ k2 =>
      have H := HA.out
      clear HA
      simp only [laws_FnStartsTaken.l1] at H
      by_cases c76 : x168_2 < (x11_1.length : Int)
      rotate_left
      ·rw [if_neg c76] at H
       have c76b0 : decide (x168_2 < (x11_1.length : Int)) = false := decide_eq_false c76
       clear c76
       have H' := a_ H
       clear H
       go_wp2
       go_meet
       case rel => exact ⟨_, H', ⟨by have := HK1.out; have := HK2.out; first | omega | exact Nat.le_refl _⟩, ⟨Bl_ HB⟩⟩
      rw [if_pos c76] at H
      have c76b0 : decide (x168_2 < (x11_1.length : Int)) = true := decide_eq_true c76
      clear c76
      by_cases c77 : 0 ≤ x168_2
      rotate_left
      ·rw [if_neg c77] at H
       cases H
      rw [if_pos c77] at H
      have c77b0 : decide (0 ≤ x168_2) = true := decide_eq_true c77
      clear c77
      by_cases c78 : x168_2 < (x11_1.length : Int)
      rotate_left
      ·rw [if_neg c78] at H
       cases H
      rw [if_pos c78] at H
      have c78b0 : decide (x168_2 < (x11_1.length : Int)) = true := decide_eq_true c78
      clear c78
      have c79b0 := eq_true (od_ : 0 ≤ x168_2)
      by_cases c80 : x168_2 ≤ (x11_1.length : Int)
      rotate_left
      ·rw [if_neg c80] at H
       cases H
      rw [if_pos c80] at H
      have c80b0 := eq_true c80
      have c80b1 : decide (x168_2 ≤ (x11_1.length : Int)) = true := decide_eq_true c80
      clear c80
      obtain ⟨y621, hy621⟩ : ∃ y_ : List Int, y_ = (x11_1.take (x168_2 : Int).toNat) := ⟨_, rfl⟩
      replace H : (laws_FnStartsTaken.l2 k2 l1 x11_1 x168_2 (rd x11_1 x168_2) x11_1 (x11_1.length : Int) x168_2 y621 (y621.length : Int) 0 t576 t577 t582 t583) = some r := by first | (rw [hy621]; with_reducible exact H) | (have H2_ := (Option.bind_some _ _).symm.trans H; rw [hy621]; with_reducible exact H2_) | (have H2_ := (Option.bind_some _ _).symm.trans H; with_reducible exact H2_) | with_reducible exact H | (rw [hy621]; exact H) | exact H
      have Ny621 := a_ hy621
      clear hy621
      have H' := a_ H
      clear H
      have p620 : 0 ≤ (x168_2 : Int) := od_
      have q620 : x168_2 < (x11_1.length : Int) := od_
      obtain ⟨ad620, e620, hx620_0⟩ := Kd.at_int (Kd.R_reads' HO_166.out).2.2 x168_2 p620 q620
      cases e620
      replace p620 := eq_true p620
      replace q620 := eq_true q620
      have q81 : (x168_2 : Int) ≤ ((x11_1.length : Int) : Int) := od_
      obtain ⟨i081, hi081, _, hsz81, _⟩ := info_parts info3
      have hroom81 : x11_1.length ≤ co56 := (Kd.R_reads' HO_11.out).2.1
      have hC81 : Kd.C (Kd.int .i64) _ (some ad620) x11_1.length x11_1 := (Kd.R_reads' HO_11.out).2.2
      have hcut81 := cut_to (P := Try.prog) 24 3 .i64 Try.underlying24 hi081 (some ad620) x11_1.length co56 x168_2 (od_) q81 hroom81
      have hr81 := Kd.C_take (m := (x168_2 : Int).toNat) hC81 (by omega)
      have hy81 : y621.length = (x168_2 : Int).toNat := (by rw [Ny621.out, List.length_take]; omega)
      rw [← Ny621.out] at hr81
      rw [← hy81] at hcut81
      have HR624 := a_ hr81
      have HC624 := a_ (show y621.length ≤ co56 from by omega)
      clear hr81 hC81 hroom81 hi081 hsz81
      have KY81 := a_ hy81
      clear hy81
      have KL81 := a_ (show (x168_2 : Int).toNat ≤ x11_1.length from by omega)
      replace q81 := eq_true q81
      go_wp2
      go_loopg [177] k2 (fun kq v177 w' => ∃ (x177_3 : Int), v177 = .int .i64 x177_3 ∧ Aside0 (laws_FnStartsTaken.l2 kq l1 x11_1 x168_2 (rd x11_1 x168_2) x11_1 (x11_1.length : Int) x168_2 y621 (y621.length : Int) x177_3 t576 t577 t582 t583 = some r) ∧ Aside0 (kq ≤ k2) ∧ Aside0 (Kd.R (Kd.int .i64) 3 w' w.heap.size (fun k_ => some k_ ≠ ((.slice Ao15 t577.length co15) : Value).ownBlock ∧ some k_ ≠ ((.slice Ao20 t583.length co20) : Value).ownBlock) (.slice (some ad620) x11_1.length co56) x11_1) ∧ Aside0 (Kd.R (Kd.int .i64) 3 w' w.heap.size (fun k_ => some k_ ≠ ((.slice Ao15 t577.length co15) : Value).ownBlock ∧ some k_ ≠ ((.slice Ao20 t583.length co20) : Value).ownBlock) (.slice (some ad620) x11_1.length co56) x11_1) ∧ Aside0 (Kd.R (Kd.int .i64) 3 w' w.heap.size (fun k_ => some k_ ≠ ((.slice (some ad620) x11_1.length co56) : Value).ownBlock ∧ some k_ ≠ ((.slice (some ad620) x11_1.length co56) : Value).ownBlock ∧ some k_ ≠ ((.slice Ao20 t583.length co20) : Value).ownBlock) (.slice Ao15 t577.length co15) t577) ∧ Aside0 (Kd.R (Kd.int .i64) 3 w' w.heap.size (fun k_ => some k_ ≠ ((.slice (some ad620) x11_1.length co56) : Value).ownBlock ∧ some k_ ≠ ((.slice (some ad620) x11_1.length co56) : Value).ownBlock ∧ some k_ ≠ ((.slice Ao15 t577.length co15) : Value).ownBlock) (.slice Ao20 t583.length co20) t583) ∧ Aside0 (w'.heap[gb581]? = some (.cells #[.int .i64 t576, (.slice Ao15 t577.length co15)] 26 (0, 0))) ∧ Aside0 (w'.heap[gb587]? = some (.cells #[.int .i64 t582, (.slice Ao20 t583.length co20)] 26 (0, 0))) ∧ Aside0 (Kd.C (Kd.int .i64) w' (some ad620) y621.length y621) ∧ Aside0 (Below w.heap.size w w'))
      case atStart => exact ⟨(0), rs_, H', ⟨Nat.le_refl _⟩, ⟨Rl_ HO_11.out⟩, ⟨Rl_ HO_166.out⟩, ⟨Rl_ HO_582001.out⟩, ⟨Rl_ HO_588001.out⟩, ⟨bl_ BK581⟩, ⟨bl_ BK587⟩, ⟨by repeat (first | (with_reducible exact HR624.out) | (with_reducible refine Kd.C_alloc ?_ _) | (with_reducible refine Kd.C_drewN ?_ _) | (with_reducible refine Kd.C_drew ?_) | exact HR624.out)⟩, ⟨Bl_ HB⟩⟩
      case round =>
       as_aux_lemma =>
       clear H'
       try clear c1
       try clear c2
       try clear p2
       try clear c3
       try clear c4
       try clear c5
       try clear c6
       try clear p6
       try clear q6
       try clear hx6
       try clear c7
       try clear c8
       try clear c8b0
       try clear c8b1
       try clear c8b2
       try clear q8
       try clear c9
       try clear c10
       try clear c11
       try clear c12
       try clear c18
       try clear c24
       try clear c25
       try clear c30
       try clear c31
       try clear c31b0
       try clear c32
       try clear c32b0
       try clear c32b1
       try clear c33
       try clear c35
       try clear c36
       try clear c43
       try clear c46
       try clear c47
       try clear c48
       try clear c48b0
       try clear c48b1
       try clear c49
       try clear c51
       try clear c52
       try clear p62
       try clear q62
       try clear hx62
       try clear c63
       try clear c64
       try clear p64
       try clear c76
       try clear c76b0
       try clear c77
       try clear c77b0
       try clear c78
       try clear c78b0
       try clear c79
       try clear c79b0
       try clear c80
       try clear c80b0
       try clear c80b1
       try clear q81
       try clear hcz14_0
       try clear hcz14_1
       try clear hcz19_0
       try clear hcz19_1
       try clear hcz21_0
       try clear hcz21_1
       try clear hcz26_0
       try clear hcz26_1
       try clear hcz28_0
       try clear hcz28_1
       try clear hcz34_0
       try clear hcz34_1
       try clear hcz37_0
       try clear hcz37_1
       try clear hcz53_0
       try clear hcz53_1
       try clear hcz58_0
       try clear hcz58_1
       try clear hcz60_0
       try clear hcz60_1
       try clear hcz65_0
       try clear hcz65_1
       try clear hcz67_0
       try clear hcz67_1
       try clear hcz71_0
       try clear hcz71_1
       try clear hcz72_0
       try clear hcz72_1
       try clear hcz74_0
       try clear hcz74_1
       try clear hfz14_0
       try clear hfz14_1
       try clear hfz19_0
       try clear hfz19_1
       try clear hfz21_0
       try clear hfz21_1
       try clear hfz26_0
       try clear hfz26_1
       try clear hfz28_0
       try clear hfz28_1
       try clear hfz34_0
       try clear hfz34_1
       try clear hfz37_0
       try clear hfz37_1
       try clear hfz53_0
       try clear hfz53_1
       try clear hfz58_0
       try clear hfz58_1
       try clear hfz60_0
       try clear hfz60_1
       try clear hfz65_0
       try clear hfz65_1
       try clear hfz67_0
       try clear hfz67_1
       try clear hfz71_0
       try clear hfz71_1
       try clear hfz72_0
       try clear hfz72_1
       try clear hfz74_0
       try clear hfz74_1
       try clear hx620_0
       try clear p2
       try clear p6
       try clear p620
       try clear p64
       try clear q620
       try clear q81
       obtain ⟨x177_3, rfl, HA, HK3, HO_11, HO_166, HO_582001, HO_588001, BK581, BK587, HR624, HB⟩ := hrel
       cases gk with
       | zero => exact absurd HA.out (by simp [laws_FnStartsTaken.l2])
       | succ k3 =>
        have H := HA.out
        clear HA
        simp only [laws_FnStartsTaken.l2] at H
        by_cases c82 : x177_3 < (y621.length : Int)
        rotate_left
        ·rw [if_neg c82] at H
         have c82b0 : decide (x177_3 < (y621.length : Int)) = false := decide_eq_false c82
         clear c82
         have H' := a_ H
         clear H
         go_wp2
         go_roundg k3
         case measure => have := HK1.out; have := HK2.out; have := HK3.out; omega
         case rel => exact ⟨(wrap64 (x168_2 + 1)), rs_, H', ⟨by have := HK1.out; have := HK2.out; have := HK3.out; omega⟩, ⟨Rl_ HO_11.out⟩, ⟨Rl_ HO_166.out⟩, ⟨Rl_ HO_582001.out⟩, ⟨Rl_ HO_588001.out⟩, ⟨bl_ BK581⟩, ⟨bl_ BK587⟩, ⟨Bl_ HB⟩⟩
        rw [if_pos c82] at H
        have c82b0 : decide (x177_3 < (y621.length : Int)) = true := decide_eq_true c82
        clear c82
        by_cases c83 : 0 ≤ x177_3
        rotate_left
        ·rw [if_neg c83] at H
         cases H
        rw [if_pos c83] at H
        have c83b0 : decide (0 ≤ x177_3) = true := decide_eq_true c83
        clear c83
        by_cases c84 : x177_3 < (y621.length : Int)
        rotate_left
        ·rw [if_neg c84] at H
         cases H
        rw [if_pos c84] at H
        have c84b0 : decide (x177_3 < (y621.length : Int)) = true := decide_eq_true c84
        clear c84
        obtain ⟨⟨t626, t627⟩, A85, H⟩ := ob_ H
        (try dsimp only at H)
        obtain ⟨⟨t628, t629⟩, A86, H⟩ := ob_ H
        (try dsimp only at H)
        by_cases c87 : t627 = true
        rotate_left
        ·replace c87 := Bool.eq_false_iff.mpr c87
         subst c87
         rw [if_neg (show ¬ (false = true) by decide)] at H
         cases H
        subst c87
        rw [if_pos rfl] at H
        by_cases c88 : t629 = true
        rotate_left
        ·replace c88 := Bool.eq_false_iff.mpr c88
         subst c88
         rw [if_neg (show ¬ (false = true) by decide)] at H
         cases H
        subst c88
        rw [if_pos rfl] at H
        by_cases c89 : t626 = t628
        rotate_left
        ·rw [if_neg c89] at H
         cases H
        rw [if_pos c89] at H
        have c89b0 : (t626 == t628) = true := beq_iff_eq.mpr c89
        have c89b1 : (t626 != t628) = false := bne_eq_false_iff_eq.mpr c89
        clear c89
        have H' := a_ H
        clear H
        have p625 : 0 ≤ (x177_3 : Int) := od_
        have q625 : x177_3 < (y621.length : Int) := od_
        obtain ⟨ad625, e625, hx625_0⟩ := Kd.at_int HR624.out x177_3 p625 q625
        obtain rfl : ad620 = ad625 := (by injection e625)
        try replace hx625_0 := (HB.out.cell (World.block_lt_of_cell? w _ hx625_0)).trans hx625_0
        replace p625 := eq_true p625
        replace q625 := eq_true q625
        have hnb90 := NB581_587.out
        have hnc90 := NB587_581.out
        have hcz91_0 : wr.cell? ⟨gb581, 0, none⟩ = some (.int .i64 t576) := (blk_cell BK581.out 0).trans rfl
        have hcz91_1 : wr.cell? ⟨gb581, 1, none⟩ = some (.slice Ao15 t577.length co15) := (blk_cell BK581.out 1).trans rfl
        have hfz91_0 := fz_ BK581 0
        have hfz91_1 := fz_ BK581 1
        go_wp2_with (first | ((with_reducible refine gate_callee (f := 14) rfl ?_); refine gm_ (some 186) Try.func14 #[.agg #[.int .i64 t576, .slice Ao15 t577.length co15], .int .i64 (rd x11_1 x168_2), .int .i64 (rd y621 x177_3)] rfl ?_; (with_reducible refine (impl_MeetingsOf.calls k3 t576 _ _ t577 (rd x11_1 x168_2) (rd y621 x177_3) t626 true _ ?side1 ?side2 A85.out).mono ?_); (case side1 => exact Cl_ (Kd.R_reads' HO_582001.out).2.2); (case side2 => exact (Kd.R_reads' HO_582001.out).2.1); rintro e w92 ⟨rfl, hb⟩; refine ⟨_, rfl, ?_⟩; replace HO_11 := a_ (Kd.R_below (Rl_ HO_11.out) hb); replace HO_166 := a_ (Kd.R_below (Rl_ HO_166.out) hb); replace HO_582001 := a_ (Kd.R_below (Rl_ HO_582001.out) hb); replace HO_588001 := a_ (Kd.R_below (Rl_ HO_588001.out) hb); replace BK581 := blkB_ BK581 hb; replace BK587 := blkB_ BK587 hb; replace HR624 := a_ (Kd.C_below (by repeat (first | (with_reducible exact HR624.out) | (with_reducible refine Kd.C_alloc ?_ _) | (with_reducible refine Kd.C_drewN ?_ _) | (with_reducible refine Kd.C_drew ?_) | exact HR624.out)) hb); replace HB := Bs_ HB hb; (try clear hb); (try clear hb2); (try clear hk); (try clear hi); have hcz93_0 := cz_ (.int .i64 t582) BK587 0; have hcz93_1 := cz_ (.slice Ao20 t583.length co20) BK587 1; have hfz93_0 := fz_ BK587 0; have hfz93_1 := fz_ BK587 1) | ((with_reducible refine gate_callee (f := 14) rfl ?_); refine gm_ (some 193) Try.func14 #[.agg #[.int .i64 t582, .slice Ao20 t583.length co20], .int .i64 x168_2, .int .i64 x177_3] rfl ?_; (with_reducible refine (impl_MeetingsOf.calls k3 t582 _ _ t583 x168_2 x177_3 t628 true _ ?side1 ?side2 A86.out).mono ?_); (case side1 => exact Cl_ (Kd.R_reads' HO_588001.out).2.2); (case side2 => exact (Kd.R_reads' HO_588001.out).2.1); rintro e w94 ⟨rfl, hb⟩; refine ⟨_, rfl, ?_⟩; replace HO_11 := a_ (Kd.R_below (Rl_ HO_11.out) hb); replace HO_166 := a_ (Kd.R_below (Rl_ HO_166.out) hb); replace HO_582001 := a_ (Kd.R_below (Rl_ HO_582001.out) hb); replace HO_588001 := a_ (Kd.R_below (Rl_ HO_588001.out) hb); replace BK581 := blkB_ BK581 hb; replace BK587 := blkB_ BK587 hb; replace HR624 := a_ (Kd.C_below (by repeat (first | (with_reducible exact HR624.out) | (with_reducible refine Kd.C_alloc ?_ _) | (with_reducible refine Kd.C_drewN ?_ _) | (with_reducible refine Kd.C_drew ?_) | exact HR624.out)) hb); replace HB := Bs_ HB hb; (try clear hb); (try clear hb2); (try clear hk); (try clear hi)))
        go_roundg k3
        case measure => have := HK1.out; have := HK2.out; have := HK3.out; omega
        case rel => exact ⟨(wrap64 (x177_3 + 1)), rs_, H', ⟨by have := HK1.out; have := HK2.out; have := HK3.out; omega⟩, ⟨Rl_ HO_11.out⟩, ⟨Rl_ HO_166.out⟩, ⟨Rl_ HO_582001.out⟩, ⟨Rl_ HO_588001.out⟩, ⟨bl_ BK581⟩, ⟨bl_ BK587⟩, ⟨by repeat (first | (with_reducible exact HR624.out) | (with_reducible refine Kd.C_alloc ?_ _) | (with_reducible refine Kd.C_drewN ?_ _) | (with_reducible refine Kd.C_drew ?_) | exact HR624.out)⟩, ⟨Bl_ HB⟩⟩
 case rest =>
  as_aux_lemma =>
  clear HC11
  try clear c1
  try clear c2
  try clear p2
  try clear c3
  try clear c4
  try clear c5
  try clear c6
  try clear p6
  try clear q6
  try clear hx6
  try clear c7
  try clear c8
  try clear c8b0
  try clear c8b1
  try clear c8b2
  try clear q8
  try clear c9
  try clear c10
  try clear c11
  try clear c12
  try clear c14
  try clear c18
  try clear c24
  try clear c25
  try clear c30
  try clear c31
  try clear c31b0
  try clear c32
  try clear c32b0
  try clear c32b1
  try clear c33
  try clear c35
  try clear c36
  try clear c43
  try clear c46
  try clear c47
  try clear c48
  try clear c48b0
  try clear c48b1
  try clear c49
  try clear c51
  try clear c52
  try clear p62
  try clear q62
  try clear hx62
  try clear c63
  try clear c64
  try clear p64
  try clear c76
  try clear c76b0
  try clear c77
  try clear c77b0
  try clear c78
  try clear c78b0
  try clear c79
  try clear c79b0
  try clear c80
  try clear c80b0
  try clear c80b1
  try clear q81
  try clear c82
  try clear c82b0
  try clear c83
  try clear c83b0
  try clear c84
  try clear c84b0
  try clear c87
  try clear c88
  try clear c89
  try clear c89b0
  try clear c89b1
  try clear c90
  try clear hcz14_0
  try clear hcz14_1
  try clear hcz19_0
  try clear hcz19_1
  try clear hcz21_0
  try clear hcz21_1
  try clear hcz26_0
  try clear hcz26_1
  try clear hcz28_0
  try clear hcz28_1
  try clear hcz34_0
  try clear hcz34_1
  try clear hcz37_0
  try clear hcz37_1
  try clear hcz53_0
  try clear hcz53_1
  try clear hcz58_0
  try clear hcz58_1
  try clear hcz60_0
  try clear hcz60_1
  try clear hcz65_0
  try clear hcz65_1
  try clear hcz67_0
  try clear hcz67_1
  try clear hcz71_0
  try clear hcz71_1
  try clear hcz72_0
  try clear hcz72_1
  try clear hcz74_0
  try clear hcz74_1
  try clear hcz91_0
  try clear hcz91_1
  try clear hcz93_0
  try clear hcz93_1
  try clear hfz14_0
  try clear hfz14_1
  try clear hfz19_0
  try clear hfz19_1
  try clear hfz21_0
  try clear hfz21_1
  try clear hfz26_0
  try clear hfz26_1
  try clear hfz28_0
  try clear hfz28_1
  try clear hfz34_0
  try clear hfz34_1
  try clear hfz37_0
  try clear hfz37_1
  try clear hfz53_0
  try clear hfz53_1
  try clear hfz58_0
  try clear hfz58_1
  try clear hfz60_0
  try clear hfz60_1
  try clear hfz65_0
  try clear hfz65_1
  try clear hfz67_0
  try clear hfz67_1
  try clear hfz71_0
  try clear hfz71_1
  try clear hfz72_0
  try clear hfz72_1
  try clear hfz74_0
  try clear hfz74_1
  try clear hfz91_0
  try clear hfz91_1
  try clear hfz93_0
  try clear hfz93_1
  try clear hx620_0
  try clear hx625_0
  try clear p2
  try clear p6
  try clear p62
  try clear p620
  try clear p625
  try clear p64
  try clear q6
  try clear q62
  try clear q620
  try clear q625
  try clear q8
  try clear q81
  obtain ⟨kq, HA, HJ10, HB⟩ := hcut
  cases kq with
  | zero => exact absurd HA.out (by simp [laws_FnStartsTaken.j3])
  | succ kj10 =>
   have H := HA.out
   clear HA
   simp only [laws_FnStartsTaken.j3] at H
   obtain ⟨⟨t630, t631, t634⟩, A95, H⟩ := ob_ H
   (try dsimp only at H)
   obtain ⟨⟨t638, t639, t642⟩, A96, H⟩ := ob_ H
   (try dsimp only at H)
   obtain ⟨⟨t644, t645, t648⟩, A97, H⟩ := ob_ H
   (try dsimp only at H)
   by_cases c98 : (t642 != t648) = true
   ·rw [if_pos c98] at H
    cases H
   rw [if_neg c98] at H
   have c98b0 : (t642 != t648) = false := by simpa using c98
   (try (have c98b1 : decide (t642 = t648) = true := by simpa using c98))
   (try (have c98b2 : (t642 == t648) = true := by simpa using c98))
   clear c98
   obtain ⟨t650, A99, H⟩ := ob_ H
   (try dsimp only at H)
   by_cases c100 : t650 = true
   rotate_left
   ·replace c100 := Bool.eq_false_iff.mpr c100
    subst c100
    rw [if_neg (show ¬ (false = true) by decide)] at H
    cases H
   subst c100
   rw [if_pos rfl] at H
   have HC101 := a_ H
   clear H
   go_upto_if 235 with (first | ((with_reducible refine gate_callee (f := 15) rfl ?_); refine gm_ (some 211) Try.func15 #[.slice A1 l1.length c1] rfl ?_; (with_reducible refine (spec_DrawKeepStarts.calls kj10 _ _ l1 t630 t631 t634 _ ?side1 ?side2 A95.out).mono ?_); (case side1 => exact Cl_ (Kd.C_below HR1.out HB.out)); (case side2 => exact HC1.out); rintro e w102 ⟨v632, v635, rfl, ho0, ho1, hb⟩; refine ⟨_, rfl, ?_⟩; have HO633 := a_ (Kd.R_lower ho0 (below_size (Bl_ HB))); have HO636 := a_ (Kd.R_lower ho1 (below_size (Bl_ HB))); replace HB := Bs_ HB hb; (try clear hb); (try clear hb2); (try clear hk); (try clear hi); (try clear ho0); (try clear ho1)) | ((with_reducible refine gate_dst (N := 27) rfl ?_); (try (refine gate_guard (by rfl) ?_; dsimp only)); refine bx_ #[.int .i64 0, .slice none 0 0] 26 ?_ 27; intro gb637 hg w103 hbox hb; replace HO633 := a_ (Kd.R_below (Rl_ HO633.out) hb); replace HO636 := a_ (Kd.R_below (Rl_ HO636.out) hb); have BK637 := a_ (hbox); have GW637 := gw_ HB hg; have GE637 := gw_ HB hg; replace HB := Bs_ HB hb; clear hb hbox hg; have hcz104_0 := cz_ (.int .i64 0) BK637 0; have hcz104_1 := cz_ (.slice none 0 0) BK637 1; have hfz104_0 := fz_ BK637 0; have hfz104_1 := fz_ BK637 1; obtain ⟨Ao105, co105, eo105⟩ := Kd.R_slice HO633.out; subst eo105; obtain ⟨Ao106, co106, eo106⟩ := Kd.R_slice HO636.out; subst eo106) | ((with_reducible refine gate_callee (f := 12) rfl ?_); refine gm_ (some 217) Try.func12 #[.agg #[.int .i64 t630, .slice Ao105 t631.length co105], .slice Ao106 t634.length co106] rfl ?_; (with_reducible refine (impl_KeepStarts.calls kj10 t630 _ _ t631 _ _ t634 t638 t639 t642 _ ?side1 ?side2 ?side3 ?side4 A96.out).mono ?_); (case side1 => refine (Kd.R_reads' (e := 3) (base := w.heap.size) (ok := fun k_ => some k_ ≠ (.slice Ao106 t634.length co106 : Value).ownBlock) (n := t631.length) (c := co105) ?_).2.2; exact (Rl_ (Rf2_ HO633.out BK637.out (by decide) (.int .i64 t630) (.slice Ao105 t631.length co105)))); (case side2 => exact (Kd.R_reads' HO633.out).2.1); (case side3 => refine (Kd.R_reads' (e := 3) (base := w.heap.size) (ok := fun k_ => some k_ ≠ (.slice Ao105 t631.length co105 : Value).ownBlock) (n := t634.length) (c := co106) ?_).2.2; exact (Rl_ (Rf2_ HO636.out BK637.out (by decide) (.int .i64 t630) (.slice Ao105 t631.length co105)))); (case side4 => exact (Kd.R_reads' HO636.out).2.1); rintro e w107 ⟨v640, rfl, ho0, hb⟩; refine ⟨_, rfl, ?_⟩; have HO641 := a_ (Kd.R_lower (Kd.R_new' (Kd.R_new' ho0 (Kd.R_lt (Rl_ (Rf2_ HO633.out BK637.out (by decide) (.int .i64 t630) (.slice Ao105 t631.length co105))))) (Kd.R_lt (Rl_ (Rf2_ HO636.out BK637.out (by decide) (.int .i64 t630) (.slice Ao105 t631.length co105))))) (below_size (Bl_ HB))); replace HO633 := a_ (Kd.R_elder' (Rl_ (Rf2_ HO633.out BK637.out (by decide) (.int .i64 t630) (.slice Ao105 t631.length co105))) (Kd.R_base ho0) hb); replace HO636 := a_ (Kd.R_elder' (Rl_ (Rf2_ HO636.out BK637.out (by decide) (.int .i64 t630) (.slice Ao105 t631.length co105))) (Kd.R_base ho0) hb); replace BK637 := a_ (blk_below (g := gb637) (o := .cells #[.int .i64 t630, .slice Ao105 t631.length co105] 26 (0, 0)) (by (with_reducible repeat (first | refine blk_drewN ?_ _ | refine blk_drew ?_ | refine blk_alloc ?_ _)); refine blk_put (cs := #[.int .i64 t630, .slice none 0 0]) ?_ 1 _ rfl; (with_reducible repeat (first | refine blk_drewN ?_ _ | refine blk_drew ?_ | refine blk_alloc ?_ _)); refine blk_put (cs := #[.int .i64 0, .slice none 0 0]) ?_ 0 _ rfl; (with_reducible repeat (first | refine blk_drewN ?_ _ | refine blk_drew ?_ | refine blk_alloc ?_ _)); exact BK637.out) hb); replace HB := Bs_ HB hb; (try clear hb); (try clear hb2); (try clear hk); (try clear hi); (try clear ho0)) | ((with_reducible refine gate_dst (N := 29) rfl ?_); (try (refine gate_guard (by rfl) ?_; dsimp only)); refine bx_ #[.int .i64 0, .slice none 0 0] 26 ?_ 29; intro gb643 hg w108 hbox hb; replace HO633 := a_ (Kd.R_below (Rl_ HO633.out) hb); replace HO636 := a_ (Kd.R_below (Rl_ HO636.out) hb); replace HO641 := a_ (Kd.R_below (Rl_ HO641.out) hb); have BK643 := a_ (hbox); have GW643 := gw_ HB hg; have GE643 := gw_ HB hg; replace HB := Bs_ HB hb; have NB637_643 := nbl_ BK637 hg; have NB643_637 := nbg_ BK637 hg; replace BK637 := blkB_ BK637 hb; clear hb hbox hg; have hnb109 := NB643_637.out; have hnc109 := NB637_643.out; have hcz110_0 := cz_ (.int .i64 0) BK643 0; have hcz110_1 := cz_ (.slice none 0 0) BK643 1; have hfz110_0 := fz_ BK643 0; have hfz110_1 := fz_ BK643 1; obtain ⟨Ao111, co111, eo111⟩ := Kd.R_slice HO641.out; subst eo111; have hcz112_0 := cz_ (.int .i64 t630) BK637 0; have hcz112_1 := cz_ (.slice Ao105 t631.length co105) BK637 1; have hfz112_0 := fz_ BK637 0; have hfz112_1 := fz_ BK637 1) | ((with_reducible refine gate_callee (f := 16) rfl ?_); refine gm_ (some 223) Try.func16 #[.agg #[.int .i64 t630, .slice Ao105 t631.length co105], .slice Ao106 t634.length co106] rfl ?_; (with_reducible refine (spec_KeepStarts.calls kj10 t630 _ _ t631 _ _ t634 t644 t645 t648 _ ?side1 ?side2 ?side3 ?side4 A97.out).mono ?_); (case side1 => refine (Kd.R_reads' (e := 3) (base := w.heap.size) (ok := fun k_ => (some k_ ≠ (.slice Ao106 t634.length co106 : Value).ownBlock ∧ some k_ ≠ (.slice Ao111 t639.length co111 : Value).ownBlock)) (n := t631.length) (c := co105) ?_).2.2; exact (Rl_ (Rf2_ HO633.out BK643.out (by decide) (.int .i64 t638) (.slice Ao111 t639.length co111)))); (case side2 => exact (Kd.R_reads' HO633.out).2.1); (case side3 => refine (Kd.R_reads' (e := 3) (base := w.heap.size) (ok := fun k_ => (some k_ ≠ (.slice Ao105 t631.length co105 : Value).ownBlock ∧ some k_ ≠ (.slice Ao111 t639.length co111 : Value).ownBlock)) (n := t634.length) (c := co106) ?_).2.2; exact (Rl_ (Rf2_ HO636.out BK643.out (by decide) (.int .i64 t638) (.slice Ao111 t639.length co111)))); (case side4 => exact (Kd.R_reads' HO636.out).2.1); rintro e w113 ⟨v646, rfl, ho0, hb⟩; refine ⟨_, rfl, ?_⟩; have HO647 := a_ (Kd.R_lower (Kd.R_new' (Kd.R_new' (Kd.R_new' ho0 (Kd.R_lt (Rl_ (Rf2_ HO633.out BK643.out (by decide) (.int .i64 t638) (.slice Ao111 t639.length co111))))) (Kd.R_lt (Rl_ (Rf2_ HO636.out BK643.out (by decide) (.int .i64 t638) (.slice Ao111 t639.length co111))))) (Kd.R_lt (Rl_ (Rf2_ HO641.out BK643.out (by decide) (.int .i64 t638) (.slice Ao111 t639.length co111))))) (below_size (Bl_ HB))); replace HO633 := a_ (Kd.R_elder' (Rl_ (Rf2_ HO633.out BK643.out (by decide) (.int .i64 t638) (.slice Ao111 t639.length co111))) (Kd.R_base ho0) hb); replace HO636 := a_ (Kd.R_elder' (Rl_ (Rf2_ HO636.out BK643.out (by decide) (.int .i64 t638) (.slice Ao111 t639.length co111))) (Kd.R_base ho0) hb); replace HO641 := a_ (Kd.R_elder' (Rl_ (Rf2_ HO641.out BK643.out (by decide) (.int .i64 t638) (.slice Ao111 t639.length co111))) (Kd.R_base ho0) hb); replace BK637 := blkF_ BK637 NB637_643 hb; replace BK643 := a_ (blk_below (g := gb643) (o := .cells #[.int .i64 t638, .slice Ao111 t639.length co111] 26 (0, 0)) (by (with_reducible repeat (first | refine blk_drewN ?_ _ | refine blk_drew ?_ | refine blk_alloc ?_ _)); refine blk_put (cs := #[.int .i64 t638, .slice none 0 0]) ?_ 1 _ rfl; (with_reducible repeat (first | refine blk_drewN ?_ _ | refine blk_drew ?_ | refine blk_alloc ?_ _)); refine blk_put (cs := #[.int .i64 0, .slice none 0 0]) ?_ 0 _ rfl; (with_reducible repeat (first | refine blk_drewN ?_ _ | refine blk_drew ?_ | refine blk_alloc ?_ _)); exact BK643.out) hb); replace HB := Bs_ HB hb; (try clear hb); (try clear hb2); (try clear hk); (try clear hi); (try clear ho0)) | ((with_reducible refine gate_dst (N := 31) rfl ?_); (try (refine gate_guard (by rfl) ?_; dsimp only)); refine bx_ #[.int .i64 0, .slice none 0 0] 26 ?_ 31; intro gb649 hg w114 hbox hb; replace HO633 := a_ (Kd.R_below (Rl_ HO633.out) hb); replace HO636 := a_ (Kd.R_below (Rl_ HO636.out) hb); replace HO641 := a_ (Kd.R_below (Rl_ HO641.out) hb); replace HO647 := a_ (Kd.R_below (Rl_ HO647.out) hb); have BK649 := a_ (hbox); have GW649 := gw_ HB hg; have GE649 := gw_ HB hg; replace HB := Bs_ HB hb; have NB637_649 := nbl_ BK637 hg; have NB649_637 := nbg_ BK637 hg; replace BK637 := blkB_ BK637 hb; have NB643_649 := nbl_ BK643 hg; have NB649_643 := nbg_ BK643 hg; replace BK643 := blkB_ BK643 hb; clear hb hbox hg; have hnb115 := NB649_637.out; have hnc115 := NB637_649.out; have hnb116 := NB649_643.out; have hnc116 := NB643_649.out; have hcz117_0 := cz_ (.int .i64 0) BK649 0; have hcz117_1 := cz_ (.slice none 0 0) BK649 1; have hfz117_0 := fz_ BK649 0; have hfz117_1 := fz_ BK649 1; obtain ⟨Ao118, co118, eo118⟩ := Kd.R_slice HO647.out; subst eo118; have hcz119_0 := cz_ (.int .i64 t638) BK643 0; have hcz119_1 := cz_ (.slice Ao111 t639.length co111) BK643 1; have hfz119_0 := fz_ BK643 0; have hfz119_1 := fz_ BK643 1) | (go_at_call 8; (with_reducible refine (laws_kLadder.calls kj10 t638 _ _ t639 t644 _ _ t645 true _ ?side1 ?side2 ?side3 ?side4 A99.out).mono ?_); (case side1 => refine (Kd.R_reads' (e := 3) (base := w.heap.size) (ok := fun k_ => (((True ∧ some k_ ≠ (.slice Ao105 t631.length co105 : Value).ownBlock) ∧ some k_ ≠ (.slice Ao106 t634.length co106 : Value).ownBlock) ∧ some k_ ≠ (.slice Ao118 t645.length co118 : Value).ownBlock)) (n := t639.length) (c := co111) ?_).2.2; exact (Rl_ (Rf2_ HO641.out BK649.out (by decide) (.int .i64 t644) (.slice Ao118 t645.length co118)))); (case side2 => exact (Kd.R_reads' HO641.out).2.1); (case side3 => refine (Kd.R_reads' (e := 3) (base := w.heap.size) (ok := fun k_ => (((True ∧ some k_ ≠ (.slice Ao105 t631.length co105 : Value).ownBlock) ∧ some k_ ≠ (.slice Ao106 t634.length co106 : Value).ownBlock) ∧ some k_ ≠ (.slice Ao111 t639.length co111 : Value).ownBlock)) (n := t645.length) (c := co118) ?_).2.2; exact (Rl_ (Rf2_ HO647.out BK649.out (by decide) (.int .i64 t644) (.slice Ao118 t645.length co118)))); (case side4 => exact (Kd.R_reads' HO647.out).2.1); rintro e w120 ⟨rfl, hb⟩; replace HO633 := a_ (Kd.R_below (Rl_ (Rf2_ HO633.out BK649.out (by decide) (.int .i64 t644) (.slice Ao118 t645.length co118))) hb); replace HO636 := a_ (Kd.R_below (Rl_ (Rf2_ HO636.out BK649.out (by decide) (.int .i64 t644) (.slice Ao118 t645.length co118))) hb); replace HO641 := a_ (Kd.R_below (Rl_ (Rf2_ HO641.out BK649.out (by decide) (.int .i64 t644) (.slice Ao118 t645.length co118))) hb); replace HO647 := a_ (Kd.R_below (Rl_ (Rf2_ HO647.out BK649.out (by decide) (.int .i64 t644) (.slice Ao118 t645.length co118))) hb); replace BK637 := blkF_ BK637 NB637_649 hb; replace BK643 := blkF_ BK643 NB643_649 hb; replace BK649 := a_ (blk_below (g := gb649) (o := .cells #[.int .i64 t644, .slice Ao118 t645.length co118] 26 (0, 0)) (by (with_reducible repeat (first | refine blk_drewN ?_ _ | refine blk_drew ?_ | refine blk_alloc ?_ _)); refine blk_put (cs := #[.int .i64 t644, .slice none 0 0]) ?_ 1 _ rfl; (with_reducible repeat (first | refine blk_drewN ?_ _ | refine blk_drew ?_ | refine blk_alloc ?_ _)); refine blk_put (cs := #[.int .i64 0, .slice none 0 0]) ?_ 0 _ rfl; (with_reducible repeat (first | refine blk_drewN ?_ _ | refine blk_drew ?_ | refine blk_alloc ?_ _)); exact BK649.out) hb); replace HB := Bs_ HB hb; (try clear hb); (try clear hb2); (try clear hk); (try clear hi)))
   (try simp only [Act.put, List.setIfInBounds_toArray, List.set_cons_zero, List.set_cons_succ])
   as_aux_lemma =>
   go_cut [] (fun wc => ∃ (kq : Nat), Aside0 (laws_FnStartsTaken.j4 kq l1 = some r) ∧ Aside0 (kq ≤ kj10) ∧ Aside0 (Below w.heap.size w wc))
   case first =>
    as_aux_lemma =>
    have H := HC101.out
    clear HC101
    by_cases c121 : t642 = true
    rotate_left
    ·replace c121 := Bool.eq_false_iff.mpr c121
     subst c121
     rw [if_neg (show ¬ (false = true) by decide)] at H
     have H' := a_ H
     clear H
     go_wp2
     go_meet
     case rel => exact ⟨_, H', ⟨by have := HJ10.out; first | omega | exact Nat.le_refl _⟩, ⟨Bl_ HB⟩⟩
    subst c121
    rw [if_pos rfl] at H
    obtain ⟨t651, A122, H⟩ := ob_ H
    (try dsimp only at H)
    obtain ⟨⟨t654, t655⟩, A123, H⟩ := ob_ H
    (try dsimp only at H)
    by_cases c124 : t655 = true
    rotate_left
    ·replace c124 := Bool.eq_false_iff.mpr c124
     subst c124
     rw [if_neg (show ¬ (false = true) by decide)] at H
     cases H
    subst c124
    rw [if_pos rfl] at H
    obtain ⟨t658, A125, H⟩ := ob_ H
    (try dsimp only at H)
    obtain ⟨t661, A126, H⟩ := ob_ H
    (try dsimp only at H)
    by_cases c127 : t661 = true
    rotate_left
    ·replace c127 := Bool.eq_false_iff.mpr c127
     subst c127
     rw [if_neg (show ¬ (false = true) by decide)] at H
     cases H
    subst c127
    rw [if_pos rfl] at H
    have H' := a_ H
    clear H
    have hnb128 := NB637_643.out
    have hnc128 := NB643_637.out
    have hnb129 := NB637_649.out
    have hnc129 := NB649_637.out
    have hcz130_0 := cz_ (.int .i64 t630) BK637 0
    have hcz130_1 := cz_ (.slice Ao105 t631.length co105) BK637 1
    have hfz130_0 := fz_ BK637 0
    have hfz130_1 := fz_ BK637 1
    go_wp2_with (first | ((with_reducible refine gate_callee (f := 10) rfl ?_); refine gm_ (some 238) Try.func10 #[.agg #[.int .i64 t630, .slice Ao105 t631.length co105]] rfl ?_; (with_reducible refine (laws_kResult.calls kj10 t630 _ _ t631 t651 _ ?side1 ?side2 A122.out).mono ?_); (case side1 => exact Cl_ (Kd.R_reads' HO633.out).2.2); (case side2 => exact (Kd.R_reads' HO633.out).2.1); rintro e w131 ⟨v652, rfl, ho0, hb⟩; refine ⟨_, rfl, ?_⟩; have HO653 := a_ (Kd.R_lower (Kd.R_new' (Kd.R_new' (Kd.R_new' (Kd.R_new' ho0 (Kd.R_lt (Rl_ HO633.out))) (Kd.R_lt (Rl_ HO636.out))) (Kd.R_lt (Rl_ HO641.out))) (Kd.R_lt (Rl_ HO647.out))) (below_size (Bl_ HB))); replace HO633 := a_ (Kd.R_elder' (Rl_ HO633.out) (Kd.R_base ho0) hb); replace HO636 := a_ (Kd.R_elder' (Rl_ HO636.out) (Kd.R_base ho0) hb); replace HO641 := a_ (Kd.R_elder' (Rl_ HO641.out) (Kd.R_base ho0) hb); replace HO647 := a_ (Kd.R_elder' (Rl_ HO647.out) (Kd.R_base ho0) hb); replace BK637 := blkB_ BK637 hb; replace BK643 := blkB_ BK643 hb; replace BK649 := blkB_ BK649 hb; replace HB := Bs_ HB hb; (try clear hb); (try clear hb2); (try clear hk); (try clear hi); (try clear ho0); obtain ⟨Ao132, co132, eo132⟩ := Kd.R_slice HO653.out; subst eo132) | ((with_reducible refine gate_callee (f := 9) rfl ?_); refine gm_ (some 240) Try.func9 #[.slice Ao132 t651.length co132, .slice Ao106 t634.length co106] rfl ?_; (with_reducible refine (impl_PatternOf.calls kj10 _ _ t651 _ _ t634 t654 true _ ?side1 ?side2 ?side3 ?side4 A123.out).mono ?_); (case side1 => exact Cl_ (Kd.R_reads' HO653.out).2.2); (case side2 => exact (Kd.R_reads' HO653.out).2.1); (case side3 => exact Cl_ (Kd.R_reads' HO636.out).2.2); (case side4 => exact (Kd.R_reads' HO636.out).2.1); rintro e w133 ⟨v656, rfl, ho0, hb⟩; refine ⟨_, rfl, ?_⟩; have HO657 := a_ (Kd.R_lower (Kd.R_new' (Kd.R_new' (Kd.R_new' (Kd.R_new' (Kd.R_new' ho0 (Kd.R_lt (Rl_ HO633.out))) (Kd.R_lt (Rl_ HO636.out))) (Kd.R_lt (Rl_ HO641.out))) (Kd.R_lt (Rl_ HO647.out))) (Kd.R_lt (Rl_ HO653.out))) (below_size (Bl_ HB))); replace HO633 := a_ (Kd.R_elder' (Rl_ HO633.out) (Kd.R_base ho0) hb); replace HO636 := a_ (Kd.R_elder' (Rl_ HO636.out) (Kd.R_base ho0) hb); replace HO641 := a_ (Kd.R_elder' (Rl_ HO641.out) (Kd.R_base ho0) hb); replace HO647 := a_ (Kd.R_elder' (Rl_ HO647.out) (Kd.R_base ho0) hb); replace HO653 := a_ (Kd.R_elder' (Rl_ HO653.out) (Kd.R_base ho0) hb); replace BK637 := blkB_ BK637 hb; replace BK643 := blkB_ BK643 hb; replace BK649 := blkB_ BK649 hb; replace HB := Bs_ HB hb; (try clear hb); (try clear hb2); (try clear hk); (try clear hi); (try clear ho0); have hnb134 := NB643_649.out; have hnc134 := NB649_643.out; have hcz135_0 := cz_ (.int .i64 t638) BK643 0; have hcz135_1 := cz_ (.slice Ao111 t639.length co111) BK643 1; have hfz135_0 := fz_ BK643 0; have hfz135_1 := fz_ BK643 1) | (go_at_call 10; (with_reducible refine (laws_kResult.calls kj10 t638 _ _ t639 t658 _ ?side1 ?side2 A125.out).mono ?_); (case side1 => exact Cl_ (Kd.R_reads' HO641.out).2.2); (case side2 => exact (Kd.R_reads' HO641.out).2.1); rintro e w136 ⟨v659, rfl, ho0, hb⟩; have HO660 := a_ (Kd.R_lower (Kd.R_new' (Kd.R_new' (Kd.R_new' (Kd.R_new' (Kd.R_new' (Kd.R_new' ho0 (Kd.R_lt (Rl_ HO633.out))) (Kd.R_lt (Rl_ HO636.out))) (Kd.R_lt (Rl_ HO641.out))) (Kd.R_lt (Rl_ HO647.out))) (Kd.R_lt (Rl_ HO653.out))) (Kd.R_lt (Rl_ HO657.out))) (below_size (Bl_ HB))); replace HO633 := a_ (Kd.R_elder' (Rl_ HO633.out) (Kd.R_base ho0) hb); replace HO636 := a_ (Kd.R_elder' (Rl_ HO636.out) (Kd.R_base ho0) hb); replace HO641 := a_ (Kd.R_elder' (Rl_ HO641.out) (Kd.R_base ho0) hb); replace HO647 := a_ (Kd.R_elder' (Rl_ HO647.out) (Kd.R_base ho0) hb); replace HO653 := a_ (Kd.R_elder' (Rl_ HO653.out) (Kd.R_base ho0) hb); replace HO657 := a_ (Kd.R_elder' (Rl_ HO657.out) (Kd.R_base ho0) hb); replace BK637 := blkB_ BK637 hb; replace BK643 := blkB_ BK643 hb; replace BK649 := blkB_ BK649 hb; replace HB := Bs_ HB hb; (try clear hb); (try clear hb2); (try clear hk); (try clear hi); (try clear ho0); obtain ⟨Ao137, co137, eo137⟩ := Kd.R_slice HO660.out; subst eo137; obtain ⟨Ao138, co138, eo138⟩ := Kd.R_slice HO657.out; subst eo138) | (go_at_call 13; (with_reducible refine (laws_kSame.calls kj10 _ _ t658 _ _ t654 true _ ?side1 ?side2 ?side3 ?side4 A126.out).mono ?_); (case side1 => exact Cl_ (Kd.R_reads' HO660.out).2.2); (case side2 => exact (Kd.R_reads' HO660.out).2.1); (case side3 => exact Cl_ (Kd.R_reads' HO657.out).2.2); (case side4 => exact (Kd.R_reads' HO657.out).2.1); rintro e w' ⟨rfl, ⟨nd, rfl⟩⟩))
    go_meet
    case rel => exact ⟨_, H', ⟨by have := HJ10.out; first | omega | exact Nat.le_refl _⟩, ⟨Bl_ HB⟩⟩
   case rest =>
    as_aux_lemma =>
    clear HC101
    try clear c1
    try clear c2
    try clear p2
    try clear c3
    try clear c4
    try clear c5
    try clear c6
    try clear p6
    try clear q6
    try clear hx6
    try clear c7
    try clear c8
    try clear c8b0
    try clear c8b1
    try clear c8b2
    try clear q8
    try clear c9
    try clear c10
    try clear c11
    try clear c12
    try clear c13
    try clear c14
    try clear c15
    try clear c16
    try clear c18
    try clear c24
    try clear c25
    try clear c30
    try clear c31
    try clear c31b0
    try clear c32
    try clear c32b0
    try clear c32b1
    try clear c33
    try clear c35
    try clear c36
    try clear c43
    try clear c46
    try clear c47
    try clear c48
    try clear c48b0
    try clear c48b1
    try clear c49
    try clear c51
    try clear c52
    try clear p62
    try clear q62
    try clear hx62
    try clear c63
    try clear c64
    try clear p64
    try clear c76
    try clear c76b0
    try clear c77
    try clear c77b0
    try clear c78
    try clear c78b0
    try clear c79
    try clear c79b0
    try clear c80
    try clear c80b0
    try clear c80b1
    try clear q81
    try clear c82
    try clear c82b0
    try clear c83
    try clear c83b0
    try clear c84
    try clear c84b0
    try clear c87
    try clear c88
    try clear c89
    try clear c89b0
    try clear c89b1
    try clear c90
    try clear c98
    try clear c98b0
    try clear c98b1
    try clear c98b2
    try clear c100
    try clear c109
    try clear c115
    try clear c116
    try clear c121
    try clear c124
    try clear c127
    try clear c128
    try clear c129
    try clear c134
    try clear hcz104_0
    try clear hcz104_1
    try clear hcz110_0
    try clear hcz110_1
    try clear hcz112_0
    try clear hcz112_1
    try clear hcz117_0
    try clear hcz117_1
    try clear hcz119_0
    try clear hcz119_1
    try clear hcz130_0
    try clear hcz130_1
    try clear hcz135_0
    try clear hcz135_1
    try clear hcz14_0
    try clear hcz14_1
    try clear hcz19_0
    try clear hcz19_1
    try clear hcz21_0
    try clear hcz21_1
    try clear hcz26_0
    try clear hcz26_1
    try clear hcz28_0
    try clear hcz28_1
    try clear hcz34_0
    try clear hcz34_1
    try clear hcz37_0
    try clear hcz37_1
    try clear hcz53_0
    try clear hcz53_1
    try clear hcz58_0
    try clear hcz58_1
    try clear hcz60_0
    try clear hcz60_1
    try clear hcz65_0
    try clear hcz65_1
    try clear hcz67_0
    try clear hcz67_1
    try clear hcz71_0
    try clear hcz71_1
    try clear hcz72_0
    try clear hcz72_1
    try clear hcz74_0
    try clear hcz74_1
    try clear hcz91_0
    try clear hcz91_1
    try clear hcz93_0
    try clear hcz93_1
    try clear hfz104_0
    try clear hfz104_1
    try clear hfz110_0
    try clear hfz110_1
    try clear hfz112_0
    try clear hfz112_1
    try clear hfz117_0
    try clear hfz117_1
    try clear hfz119_0
    try clear hfz119_1
    try clear hfz130_0
    try clear hfz130_1
    try clear hfz135_0
    try clear hfz135_1
    try clear hfz14_0
    try clear hfz14_1
    try clear hfz19_0
    try clear hfz19_1
    try clear hfz21_0
    try clear hfz21_1
    try clear hfz26_0
    try clear hfz26_1
    try clear hfz28_0
    try clear hfz28_1
    try clear hfz34_0
    try clear hfz34_1
    try clear hfz37_0
    try clear hfz37_1
    try clear hfz53_0
    try clear hfz53_1
    try clear hfz58_0
    try clear hfz58_1
    try clear hfz60_0
    try clear hfz60_1
    try clear hfz65_0
    try clear hfz65_1
    try clear hfz67_0
    try clear hfz67_1
    try clear hfz71_0
    try clear hfz71_1
    try clear hfz72_0
    try clear hfz72_1
    try clear hfz74_0
    try clear hfz74_1
    try clear hfz91_0
    try clear hfz91_1
    try clear hfz93_0
    try clear hfz93_1
    try clear hx620_0
    try clear hx625_0
    try clear p2
    try clear p6
    try clear p62
    try clear p620
    try clear p625
    try clear p64
    try clear q6
    try clear q62
    try clear q620
    try clear q625
    try clear q8
    try clear q81
    obtain ⟨kq, HA, HJ100, HB⟩ := hcut
    cases kq with
    | zero => exact absurd HA.out (by simp [laws_FnStartsTaken.j4])
    | succ kj100 =>
     have H := HA.out
     clear HA
     simp only [laws_FnStartsTaken.j4] at H
     obtain ⟨⟨t662, t663, t666⟩, A139, H⟩ := ob_ H
     (try dsimp only at H)
     obtain ⟨⟨t668, t669, t672⟩, A140, H⟩ := ob_ H
     (try dsimp only at H)
     obtain ⟨⟨t674, t675, t678⟩, A141, H⟩ := ob_ H
     (try dsimp only at H)
     by_cases c142 : (t672 != t678) = true
     ·rw [if_pos c142] at H
      cases H
     rw [if_neg c142] at H
     have c142b0 : (t672 != t678) = false := by simpa using c142
     (try (have c142b1 : decide (t672 = t678) = true := by simpa using c142))
     (try (have c142b2 : (t672 == t678) = true := by simpa using c142))
     clear c142
     obtain ⟨t680, A143, H⟩ := ob_ H
     (try dsimp only at H)
     by_cases c144 : t680 = true
     rotate_left
     ·replace c144 := Bool.eq_false_iff.mpr c144
      subst c144
      rw [if_neg (show ¬ (false = true) by decide)] at H
      cases H
     subst c144
     rw [if_pos rfl] at H
     have HC145 := a_ H
     clear H
     go_upto_if 278 with (first | ((with_reducible refine gate_callee (f := 17) rfl ?_); refine gm_ (some 254) Try.func17 #[.slice A1 l1.length c1] rfl ?_; (with_reducible refine (spec_DrawPutWire.calls kj100 _ _ l1 t662 t663 t666 _ ?side1 ?side2 A139.out).mono ?_); (case side1 => exact Cl_ (Kd.C_below HR1.out HB.out)); (case side2 => exact HC1.out); rintro e w146 ⟨v664, rfl, ho0, hb⟩; refine ⟨_, rfl, ?_⟩; have HO665 := a_ (Kd.R_lower ho0 (below_size (Bl_ HB))); replace HB := Bs_ HB hb; (try clear hb); (try clear hb2); (try clear hk); (try clear hi); (try clear ho0)) | ((with_reducible refine gate_dst (N := 35) rfl ?_); (try (refine gate_guard (by rfl) ?_; dsimp only)); refine bx_ #[.int .i64 0, .slice none 0 0] 26 ?_ 35; intro gb667 hg w147 hbox hb; replace HO665 := a_ (Kd.R_below (Rl_ HO665.out) hb); have BK667 := a_ (hbox); have GW667 := gw_ HB hg; have GE667 := gw_ HB hg; replace HB := Bs_ HB hb; clear hb hbox hg; have hcz148_0 := cz_ (.int .i64 0) BK667 0; have hcz148_1 := cz_ (.slice none 0 0) BK667 1; have hfz148_0 := fz_ BK667 0; have hfz148_1 := fz_ BK667 1; obtain ⟨Ao149, co149, eo149⟩ := Kd.R_slice HO665.out; subst eo149) | ((with_reducible refine gate_callee (f := 18) rfl ?_); refine gm_ (some 260) Try.func18 #[.agg #[.int .i64 t662, .slice Ao149 t663.length co149], .int .i64 t666] rfl ?_; (with_reducible refine (impl_PutWire.calls kj100 t662 _ _ t663 t666 t668 t669 t672 _ ?side1 ?side2 A140.out).mono ?_); (case side1 => refine (Kd.R_reads' (e := 3) (base := w.heap.size) (ok := fun k_ => True) (n := t663.length) (c := co149) ?_).2.2; exact (Rl_ (Rf2_ HO665.out BK667.out (by decide) (.int .i64 t662) (.slice Ao149 t663.length co149)))); (case side2 => exact (Kd.R_reads' HO665.out).2.1); rintro e w150 ⟨v670, rfl, ho0, hb⟩; refine ⟨_, rfl, ?_⟩; have HO671 := a_ (Kd.R_lower (Kd.R_new' ho0 (Kd.R_lt (Rl_ (Rf2_ HO665.out BK667.out (by decide) (.int .i64 t662) (.slice Ao149 t663.length co149))))) (below_size (Bl_ HB))); replace HO665 := a_ (Kd.R_elder' (Rl_ (Rf2_ HO665.out BK667.out (by decide) (.int .i64 t662) (.slice Ao149 t663.length co149))) (Kd.R_base ho0) hb); replace BK667 := a_ (blk_below (g := gb667) (o := .cells #[.int .i64 t662, .slice Ao149 t663.length co149] 26 (0, 0)) (by (with_reducible repeat (first | refine blk_drewN ?_ _ | refine blk_drew ?_ | refine blk_alloc ?_ _)); refine blk_put (cs := #[.int .i64 t662, .slice none 0 0]) ?_ 1 _ rfl; (with_reducible repeat (first | refine blk_drewN ?_ _ | refine blk_drew ?_ | refine blk_alloc ?_ _)); refine blk_put (cs := #[.int .i64 0, .slice none 0 0]) ?_ 0 _ rfl; (with_reducible repeat (first | refine blk_drewN ?_ _ | refine blk_drew ?_ | refine blk_alloc ?_ _)); exact BK667.out) hb); replace HB := Bs_ HB hb; (try clear hb); (try clear hb2); (try clear hk); (try clear hi); (try clear ho0)) | ((with_reducible refine gate_dst (N := 37) rfl ?_); (try (refine gate_guard (by rfl) ?_; dsimp only)); refine bx_ #[.int .i64 0, .slice none 0 0] 26 ?_ 37; intro gb673 hg w151 hbox hb; replace HO665 := a_ (Kd.R_below (Rl_ HO665.out) hb); replace HO671 := a_ (Kd.R_below (Rl_ HO671.out) hb); have BK673 := a_ (hbox); have GW673 := gw_ HB hg; have GE673 := gw_ HB hg; replace HB := Bs_ HB hb; have NB667_673 := nbl_ BK667 hg; have NB673_667 := nbg_ BK667 hg; replace BK667 := blkB_ BK667 hb; clear hb hbox hg; have hnb152 := NB673_667.out; have hnc152 := NB667_673.out; have hcz153_0 := cz_ (.int .i64 0) BK673 0; have hcz153_1 := cz_ (.slice none 0 0) BK673 1; have hfz153_0 := fz_ BK673 0; have hfz153_1 := fz_ BK673 1; obtain ⟨Ao154, co154, eo154⟩ := Kd.R_slice HO671.out; subst eo154; have hcz155_0 := cz_ (.int .i64 t662) BK667 0; have hcz155_1 := cz_ (.slice Ao149 t663.length co149) BK667 1; have hfz155_0 := fz_ BK667 0; have hfz155_1 := fz_ BK667 1) | ((with_reducible refine gate_callee (f := 19) rfl ?_); refine gm_ (some 266) Try.func19 #[.agg #[.int .i64 t662, .slice Ao149 t663.length co149], .int .i64 t666] rfl ?_; (with_reducible refine (spec_PutWire.calls kj100 t662 _ _ t663 t666 t674 t675 t678 _ ?side1 ?side2 A141.out).mono ?_); (case side1 => refine (Kd.R_reads' (e := 3) (base := w.heap.size) (ok := fun k_ => (True ∧ some k_ ≠ (.slice Ao154 t669.length co154 : Value).ownBlock)) (n := t663.length) (c := co149) ?_).2.2; exact (Rl_ (Rf2_ HO665.out BK673.out (by decide) (.int .i64 t668) (.slice Ao154 t669.length co154)))); (case side2 => exact (Kd.R_reads' HO665.out).2.1); rintro e w156 ⟨v676, rfl, ho0, hb⟩; refine ⟨_, rfl, ?_⟩; have HO677 := a_ (Kd.R_lower (Kd.R_new' (Kd.R_new' ho0 (Kd.R_lt (Rl_ (Rf2_ HO665.out BK673.out (by decide) (.int .i64 t668) (.slice Ao154 t669.length co154))))) (Kd.R_lt (Rl_ (Rf2_ HO671.out BK673.out (by decide) (.int .i64 t668) (.slice Ao154 t669.length co154))))) (below_size (Bl_ HB))); replace HO665 := a_ (Kd.R_elder' (Rl_ (Rf2_ HO665.out BK673.out (by decide) (.int .i64 t668) (.slice Ao154 t669.length co154))) (Kd.R_base ho0) hb); replace HO671 := a_ (Kd.R_elder' (Rl_ (Rf2_ HO671.out BK673.out (by decide) (.int .i64 t668) (.slice Ao154 t669.length co154))) (Kd.R_base ho0) hb); replace BK667 := blkF_ BK667 NB667_673 hb; replace BK673 := a_ (blk_below (g := gb673) (o := .cells #[.int .i64 t668, .slice Ao154 t669.length co154] 26 (0, 0)) (by (with_reducible repeat (first | refine blk_drewN ?_ _ | refine blk_drew ?_ | refine blk_alloc ?_ _)); refine blk_put (cs := #[.int .i64 t668, .slice none 0 0]) ?_ 1 _ rfl; (with_reducible repeat (first | refine blk_drewN ?_ _ | refine blk_drew ?_ | refine blk_alloc ?_ _)); refine blk_put (cs := #[.int .i64 0, .slice none 0 0]) ?_ 0 _ rfl; (with_reducible repeat (first | refine blk_drewN ?_ _ | refine blk_drew ?_ | refine blk_alloc ?_ _)); exact BK673.out) hb); replace HB := Bs_ HB hb; (try clear hb); (try clear hb2); (try clear hk); (try clear hi); (try clear ho0)) | ((with_reducible refine gate_dst (N := 39) rfl ?_); (try (refine gate_guard (by rfl) ?_; dsimp only)); refine bx_ #[.int .i64 0, .slice none 0 0] 26 ?_ 39; intro gb679 hg w157 hbox hb; replace HO665 := a_ (Kd.R_below (Rl_ HO665.out) hb); replace HO671 := a_ (Kd.R_below (Rl_ HO671.out) hb); replace HO677 := a_ (Kd.R_below (Rl_ HO677.out) hb); have BK679 := a_ (hbox); have GW679 := gw_ HB hg; have GE679 := gw_ HB hg; replace HB := Bs_ HB hb; have NB667_679 := nbl_ BK667 hg; have NB679_667 := nbg_ BK667 hg; replace BK667 := blkB_ BK667 hb; have NB673_679 := nbl_ BK673 hg; have NB679_673 := nbg_ BK673 hg; replace BK673 := blkB_ BK673 hb; clear hb hbox hg; have hnb158 := NB679_667.out; have hnc158 := NB667_679.out; have hnb159 := NB679_673.out; have hnc159 := NB673_679.out; have hcz160_0 := cz_ (.int .i64 0) BK679 0; have hcz160_1 := cz_ (.slice none 0 0) BK679 1; have hfz160_0 := fz_ BK679 0; have hfz160_1 := fz_ BK679 1; obtain ⟨Ao161, co161, eo161⟩ := Kd.R_slice HO677.out; subst eo161; have hcz162_0 := cz_ (.int .i64 t668) BK673 0; have hcz162_1 := cz_ (.slice Ao154 t669.length co154) BK673 1; have hfz162_0 := fz_ BK673 0; have hfz162_1 := fz_ BK673 1) | (go_at_call 8; (with_reducible refine (laws_kLadder.calls kj100 t668 _ _ t669 t674 _ _ t675 true _ ?side1 ?side2 ?side3 ?side4 A143.out).mono ?_); (case side1 => refine (Kd.R_reads' (e := 3) (base := w.heap.size) (ok := fun k_ => ((True ∧ some k_ ≠ (.slice Ao149 t663.length co149 : Value).ownBlock) ∧ some k_ ≠ (.slice Ao161 t675.length co161 : Value).ownBlock)) (n := t669.length) (c := co154) ?_).2.2; exact (Rl_ (Rf2_ HO671.out BK679.out (by decide) (.int .i64 t674) (.slice Ao161 t675.length co161)))); (case side2 => exact (Kd.R_reads' HO671.out).2.1); (case side3 => refine (Kd.R_reads' (e := 3) (base := w.heap.size) (ok := fun k_ => ((True ∧ some k_ ≠ (.slice Ao149 t663.length co149 : Value).ownBlock) ∧ some k_ ≠ (.slice Ao154 t669.length co154 : Value).ownBlock)) (n := t675.length) (c := co161) ?_).2.2; exact (Rl_ (Rf2_ HO677.out BK679.out (by decide) (.int .i64 t674) (.slice Ao161 t675.length co161)))); (case side4 => exact (Kd.R_reads' HO677.out).2.1); rintro e w163 ⟨rfl, hb⟩; replace HO665 := a_ (Kd.R_below (Rl_ (Rf2_ HO665.out BK679.out (by decide) (.int .i64 t674) (.slice Ao161 t675.length co161))) hb); replace HO671 := a_ (Kd.R_below (Rl_ (Rf2_ HO671.out BK679.out (by decide) (.int .i64 t674) (.slice Ao161 t675.length co161))) hb); replace HO677 := a_ (Kd.R_below (Rl_ (Rf2_ HO677.out BK679.out (by decide) (.int .i64 t674) (.slice Ao161 t675.length co161))) hb); replace BK667 := blkF_ BK667 NB667_679 hb; replace BK673 := blkF_ BK673 NB673_679 hb; replace BK679 := a_ (blk_below (g := gb679) (o := .cells #[.int .i64 t674, .slice Ao161 t675.length co161] 26 (0, 0)) (by (with_reducible repeat (first | refine blk_drewN ?_ _ | refine blk_drew ?_ | refine blk_alloc ?_ _)); refine blk_put (cs := #[.int .i64 t674, .slice none 0 0]) ?_ 1 _ rfl; (with_reducible repeat (first | refine blk_drewN ?_ _ | refine blk_drew ?_ | refine blk_alloc ?_ _)); refine blk_put (cs := #[.int .i64 0, .slice none 0 0]) ?_ 0 _ rfl; (with_reducible repeat (first | refine blk_drewN ?_ _ | refine blk_drew ?_ | refine blk_alloc ?_ _)); exact BK679.out) hb); replace HB := Bs_ HB hb; (try clear hb); (try clear hb2); (try clear hk); (try clear hi)))
     (try simp only [Act.put, List.setIfInBounds_toArray, List.set_cons_zero, List.set_cons_succ])
     as_aux_lemma =>
     go_cut [] (fun wc => ∃ (kq : Nat), Aside0 (laws_FnStartsTaken.j5 kq l1 = some r) ∧ Aside0 (kq ≤ kj100) ∧ Aside0 (Below w.heap.size w wc))
     case first =>
      as_aux_lemma =>
      have H := HC145.out
      clear HC145
      by_cases c164 : t672 = true
      rotate_left
      ·replace c164 := Bool.eq_false_iff.mpr c164
       subst c164
       rw [if_neg (show ¬ (false = true) by decide)] at H
       have H' := a_ H
       clear H
       go_wp2
       go_meet
       case rel => exact ⟨_, H', ⟨by have := HJ10.out; have := HJ100.out; first | omega | exact Nat.le_refl _⟩, ⟨Bl_ HB⟩⟩
      subst c164
      rw [if_pos rfl] at H
      obtain ⟨⟨t681, t682⟩, A165, H⟩ := ob_ H
      (try dsimp only at H)
      obtain ⟨⟨t683, t684, t687⟩, A166, H⟩ := ob_ H
      (try dsimp only at H)
      obtain ⟨⟨t689, t692⟩, A167, H⟩ := ob_ H
      (try dsimp only at H)
      by_cases c168 : t682 = true
      rotate_left
      ·replace c168 := Bool.eq_false_iff.mpr c168
       subst c168
       rw [if_neg (show ¬ (false = true) by decide)] at H
       cases H
      subst c168
      rw [if_pos rfl] at H
      by_cases c169 : t681 = t666
      rotate_left
      ·rw [if_neg c169] at H
       cases H
      rw [if_pos c169] at H
      have c169b0 : (t681 == t666) = true := beq_iff_eq.mpr c169
      have c169b1 : (t681 != t666) = false := bne_eq_false_iff_eq.mpr c169
      clear c169
      (first | rw [c169b0] | (simp only [i64_w, i32_w]; rw [c169b0]) | skip)
      by_cases c170 : t687 = true
      rotate_left
      ·replace c170 := Bool.eq_false_iff.mpr c170
       subst c170
       rw [if_neg (show ¬ (false = true) by decide)] at H
       cases H
      subst c170
      rw [if_pos rfl] at H
      obtain ⟨t693, A171, H⟩ := ob_ H
      (try dsimp only at H)
      by_cases c172 : t693 = true
      rotate_left
      ·replace c172 := Bool.eq_false_iff.mpr c172
       subst c172
       rw [if_neg (show ¬ (false = true) by decide)] at H
       cases H
      subst c172
      rw [if_pos rfl] at H
      by_cases c173 : t692 = true
      rotate_left
      ·replace c173 := Bool.eq_false_iff.mpr c173
       subst c173
       rw [if_neg (show ¬ (false = true) by decide)] at H
       cases H
      subst c173
      rw [if_pos rfl] at H
      obtain ⟨t694, A174, H⟩ := ob_ H
      (try dsimp only at H)
      by_cases c175 : t694 = true
      rotate_left
      ·replace c175 := Bool.eq_false_iff.mpr c175
       subst c175
       rw [if_neg (show ¬ (false = true) by decide)] at H
       cases H
      subst c175
      rw [if_pos rfl] at H
      have H' := a_ H
      clear H
      have hnb176 := NB673_667.out
      have hnc176 := NB667_673.out
      have hnb177 := NB673_679.out
      have hnc177 := NB679_673.out
      have hcz178_0 := cz_ (.int .i64 t668) BK673 0
      have hcz178_1 := cz_ (.slice Ao154 t669.length co154) BK673 1
      have hfz178_0 := fz_ BK673 0
      have hfz178_1 := fz_ BK673 1
      go_wp2_with (first | ((with_reducible refine gate_callee (f := 20) rfl ?_); refine gm_ (some 282) Try.func20 #[.agg #[.int .i64 t668, .slice Ao154 t669.length co154], .int .i64 t666] rfl ?_; (with_reducible refine (impl_EndOf.calls kj100 t668 _ _ t669 t666 t681 true _ ?side1 ?side2 A165.out).mono ?_); (case side1 => exact Cl_ (Kd.R_reads' HO671.out).2.2); (case side2 => exact (Kd.R_reads' HO671.out).2.1); rintro e w179 ⟨rfl, hb⟩; refine ⟨_, rfl, ?_⟩; replace HO665 := a_ (Kd.R_below (Rl_ HO665.out) hb); replace HO671 := a_ (Kd.R_below (Rl_ HO671.out) hb); replace HO677 := a_ (Kd.R_below (Rl_ HO677.out) hb); replace BK667 := blkB_ BK667 hb; replace BK673 := blkB_ BK673 hb; replace BK679 := blkB_ BK679 hb; replace HB := Bs_ HB hb; (try clear hb); (try clear hb2); (try clear hk); (try clear hi); have hcz180_0 := cz_ (.int .i64 t668) BK673 0; have hcz180_1 := cz_ (.slice Ao154 t669.length co154) BK673 1; have hfz180_0 := fz_ BK673 0; have hfz180_1 := fz_ BK673 1) | ((with_reducible refine gate_callee (f := 6) rfl ?_); refine gm_ (some 288) Try.func6 #[.agg #[.int .i64 t668, .slice Ao154 t669.length co154], .int .i64 t666] rfl ?_; (with_reducible refine (impl_TakeStart.calls kj100 t668 _ _ t669 t666 t683 t684 true _ ?side1 ?side2 A166.out).mono ?_); (case side1 => exact Cl_ (Kd.R_reads' HO671.out).2.2); (case side2 => exact (Kd.R_reads' HO671.out).2.1); rintro e w181 ⟨v685, rfl, ho0, hb⟩; refine ⟨_, rfl, ?_⟩; have HO686 := a_ (Kd.R_lower (Kd.R_new' (Kd.R_new' (Kd.R_new' ho0 (Kd.R_lt (Rl_ HO665.out))) (Kd.R_lt (Rl_ HO671.out))) (Kd.R_lt (Rl_ HO677.out))) (below_size (Bl_ HB))); replace HO665 := a_ (Kd.R_elder' (Rl_ HO665.out) (Kd.R_base ho0) hb); replace HO671 := a_ (Kd.R_elder' (Rl_ HO671.out) (Kd.R_base ho0) hb); replace HO677 := a_ (Kd.R_elder' (Rl_ HO677.out) (Kd.R_base ho0) hb); replace BK667 := blkB_ BK667 hb; replace BK673 := blkB_ BK673 hb; replace BK679 := blkB_ BK679 hb; replace HB := Bs_ HB hb; (try clear hb); (try clear hb2); (try clear hk); (try clear hi); (try clear ho0)) | ((with_reducible refine gate_dst (N := 43) rfl ?_); (try (refine gate_guard (by rfl) ?_; dsimp only)); refine bx_ #[.int .i64 0, .slice none 0 0] 26 ?_ 43; intro gb688 hg w182 hbox hb; replace HO665 := a_ (Kd.R_below (Rl_ HO665.out) hb); replace HO671 := a_ (Kd.R_below (Rl_ HO671.out) hb); replace HO677 := a_ (Kd.R_below (Rl_ HO677.out) hb); replace HO686 := a_ (Kd.R_below (Rl_ HO686.out) hb); have BK688 := a_ (hbox); have GW688 := gw_ HB hg; have GE688 := gw_ HB hg; replace HB := Bs_ HB hb; have NB667_688 := nbl_ BK667 hg; have NB688_667 := nbg_ BK667 hg; replace BK667 := blkB_ BK667 hb; have NB673_688 := nbl_ BK673 hg; have NB688_673 := nbg_ BK673 hg; replace BK673 := blkB_ BK673 hb; have NB679_688 := nbl_ BK679 hg; have NB688_679 := nbg_ BK679 hg; replace BK679 := blkB_ BK679 hb; clear hb hbox hg; have hnb183 := NB688_667.out; have hnc183 := NB667_688.out; have hnb184 := NB688_673.out; have hnc184 := NB673_688.out; have hnb185 := NB688_679.out; have hnc185 := NB679_688.out; have hcz186_0 := cz_ (.int .i64 0) BK688 0; have hcz186_1 := cz_ (.slice none 0 0) BK688 1; have hfz186_0 := fz_ BK688 0; have hfz186_1 := fz_ BK688 1; obtain ⟨Ao187, co187, eo187⟩ := Kd.R_slice HO686.out; subst eo187; have hcz188_0 := cz_ (.int .i64 t668) BK673 0; have hcz188_1 := cz_ (.slice Ao154 t669.length co154) BK673 1; have hfz188_0 := fz_ BK673 0; have hfz188_1 := fz_ BK673 1) | ((with_reducible refine gate_callee (f := 21) rfl ?_); refine gm_ (some 293) Try.func21 #[.agg #[.int .i64 t668, .slice Ao154 t669.length co154]] rfl ?_; (with_reducible refine (impl_StaysOn.calls kj100 t668 _ _ t669 t689 true _ ?side1 ?side2 A167.out).mono ?_); (case side1 => refine (Kd.R_reads' (e := 3) (base := w.heap.size) (ok := fun k_ => (((True ∧ some k_ ≠ (.slice Ao149 t663.length co149 : Value).ownBlock) ∧ some k_ ≠ (.slice Ao161 t675.length co161 : Value).ownBlock) ∧ some k_ ≠ (.slice Ao187 t684.length co187 : Value).ownBlock)) (n := t669.length) (c := co154) ?_).2.2; exact (Rl_ (Rf2_ HO671.out BK688.out (by decide) (.int .i64 t683) (.slice Ao187 t684.length co187)))); (case side2 => exact (Kd.R_reads' HO671.out).2.1); rintro e w189 ⟨v690, rfl, ho0, hb⟩; refine ⟨_, rfl, ?_⟩; have HO691 := a_ (Kd.R_lower (Kd.R_new' (Kd.R_new' (Kd.R_new' (Kd.R_new' ho0 (Kd.R_lt (Rl_ (Rf2_ HO665.out BK688.out (by decide) (.int .i64 t683) (.slice Ao187 t684.length co187))))) (Kd.R_lt (Rl_ (Rf2_ HO671.out BK688.out (by decide) (.int .i64 t683) (.slice Ao187 t684.length co187))))) (Kd.R_lt (Rl_ (Rf2_ HO677.out BK688.out (by decide) (.int .i64 t683) (.slice Ao187 t684.length co187))))) (Kd.R_lt (Rl_ (Rf2_ HO686.out BK688.out (by decide) (.int .i64 t683) (.slice Ao187 t684.length co187))))) (below_size (Bl_ HB))); replace HO665 := a_ (Kd.R_elder' (Rl_ (Rf2_ HO665.out BK688.out (by decide) (.int .i64 t683) (.slice Ao187 t684.length co187))) (Kd.R_base ho0) hb); replace HO671 := a_ (Kd.R_elder' (Rl_ (Rf2_ HO671.out BK688.out (by decide) (.int .i64 t683) (.slice Ao187 t684.length co187))) (Kd.R_base ho0) hb); replace HO677 := a_ (Kd.R_elder' (Rl_ (Rf2_ HO677.out BK688.out (by decide) (.int .i64 t683) (.slice Ao187 t684.length co187))) (Kd.R_base ho0) hb); replace HO686 := a_ (Kd.R_elder' (Rl_ (Rf2_ HO686.out BK688.out (by decide) (.int .i64 t683) (.slice Ao187 t684.length co187))) (Kd.R_base ho0) hb); replace BK667 := blkF_ BK667 NB667_688 hb; replace BK673 := blkF_ BK673 NB673_688 hb; replace BK679 := blkF_ BK679 NB679_688 hb; replace BK688 := a_ (blk_below (g := gb688) (o := .cells #[.int .i64 t683, .slice Ao187 t684.length co187] 26 (0, 0)) (by (with_reducible repeat (first | refine blk_drewN ?_ _ | refine blk_drew ?_ | refine blk_alloc ?_ _)); refine blk_put (cs := #[.int .i64 t683, .slice none 0 0]) ?_ 1 _ rfl; (with_reducible repeat (first | refine blk_drewN ?_ _ | refine blk_drew ?_ | refine blk_alloc ?_ _)); refine blk_put (cs := #[.int .i64 0, .slice none 0 0]) ?_ 0 _ rfl; (with_reducible repeat (first | refine blk_drewN ?_ _ | refine blk_drew ?_ | refine blk_alloc ?_ _)); exact BK688.out) hb); replace HB := Bs_ HB hb; (try clear hb); (try clear hb2); (try clear hk); (try clear hi); (try clear ho0); have hcz190_0 := cz_ (.int .i64 t683) BK688 0; have hcz190_1 := cz_ (.slice Ao187 t684.length co187) BK688 1; have hfz190_0 := fz_ BK688 0; have hfz190_1 := fz_ BK688 1; have hnb191 := NB667_679.out; have hnc191 := NB679_667.out; have hcz192_0 := cz_ (.int .i64 t662) BK667 0; have hcz192_1 := cz_ (.slice Ao149 t663.length co149) BK667 1; have hfz192_0 := fz_ BK667 0; have hfz192_1 := fz_ BK667 1) | (go_at_call 8; (with_reducible refine (laws_kLadder.calls kj100 t683 _ _ t684 t662 _ _ t663 true _ ?side1 ?side2 ?side3 ?side4 A171.out).mono ?_); (case side1 => exact Cl_ (Kd.R_reads' HO686.out).2.2); (case side2 => exact (Kd.R_reads' HO686.out).2.1); (case side3 => exact Cl_ (Kd.R_reads' HO665.out).2.2); (case side4 => exact (Kd.R_reads' HO665.out).2.1); rintro e w193 ⟨rfl, hb⟩; replace HO665 := a_ (Kd.R_below (Rl_ HO665.out) hb); replace HO671 := a_ (Kd.R_below (Rl_ HO671.out) hb); replace HO677 := a_ (Kd.R_below (Rl_ HO677.out) hb); replace HO686 := a_ (Kd.R_below (Rl_ HO686.out) hb); replace HO691 := a_ (Kd.R_below (Rl_ HO691.out) hb); replace BK667 := blkB_ BK667 hb; replace BK673 := blkB_ BK673 hb; replace BK679 := blkB_ BK679 hb; replace BK688 := blkB_ BK688 hb; replace HB := Bs_ HB hb; (try clear hb); (try clear hb2); (try clear hk); (try clear hi); obtain ⟨Ao194, co194, eo194⟩ := Kd.R_slice HO691.out; subst eo194) | (go_at_call 22; (with_reducible refine (laws_kHas.calls kj100 _ _ t689 t666 true _ ?side1 ?side2 A174.out).mono ?_); (case side1 => exact Cl_ (Kd.R_reads' HO691.out).2.2); (case side2 => exact (Kd.R_reads' HO691.out).2.1); rintro e w' ⟨rfl, ⟨nd, rfl⟩⟩))
      go_meet
      case rel => exact ⟨_, H', ⟨by have := HJ10.out; have := HJ100.out; first | omega | exact Nat.le_refl _⟩, ⟨Bl_ HB⟩⟩
     case rest =>
      as_aux_lemma =>
      clear HC145
      try clear c1
      try clear c2
      try clear p2
      try clear c3
      try clear c4
      try clear c5
      try clear c6
      try clear p6
      try clear q6
      try clear hx6
      try clear c7
      try clear c8
      try clear c8b0
      try clear c8b1
      try clear c8b2
      try clear q8
      try clear c9
      try clear c10
      try clear c11
      try clear c12
      try clear c13
      try clear c14
      try clear c15
      try clear c16
      try clear c17
      try clear c18
      try clear c19
      try clear c20
      try clear c21
      try clear c24
      try clear c25
      try clear c30
      try clear c31
      try clear c31b0
      try clear c32
      try clear c32b0
      try clear c32b1
      try clear c33
      try clear c35
      try clear c36
      try clear c43
      try clear c46
      try clear c47
      try clear c48
      try clear c48b0
      try clear c48b1
      try clear c49
      try clear c51
      try clear c52
      try clear p62
      try clear q62
      try clear hx62
      try clear c63
      try clear c64
      try clear p64
      try clear c76
      try clear c76b0
      try clear c77
      try clear c77b0
      try clear c78
      try clear c78b0
      try clear c79
      try clear c79b0
      try clear c80
      try clear c80b0
      try clear c80b1
      try clear q81
      try clear c82
      try clear c82b0
      try clear c83
      try clear c83b0
      try clear c84
      try clear c84b0
      try clear c87
      try clear c88
      try clear c89
      try clear c89b0
      try clear c89b1
      try clear c90
      try clear c98
      try clear c98b0
      try clear c98b1
      try clear c98b2
      try clear c100
      try clear c109
      try clear c115
      try clear c116
      try clear c121
      try clear c124
      try clear c127
      try clear c128
      try clear c129
      try clear c134
      try clear c142
      try clear c142b0
      try clear c142b1
      try clear c142b2
      try clear c144
      try clear c152
      try clear c158
      try clear c159
      try clear c164
      try clear c168
      try clear c169
      try clear c169b0
      try clear c169b1
      try clear c170
      try clear c172
      try clear c173
      try clear c175
      try clear c176
      try clear c177
      try clear c183
      try clear c184
      try clear c185
      try clear c191
      try clear hcz104_0
      try clear hcz104_1
      try clear hcz110_0
      try clear hcz110_1
      try clear hcz112_0
      try clear hcz112_1
      try clear hcz117_0
      try clear hcz117_1
      try clear hcz119_0
      try clear hcz119_1
      try clear hcz130_0
      try clear hcz130_1
      try clear hcz135_0
      try clear hcz135_1
      try clear hcz148_0
      try clear hcz148_1
      try clear hcz14_0
      try clear hcz14_1
      try clear hcz153_0
      try clear hcz153_1
      try clear hcz155_0
      try clear hcz155_1
      try clear hcz160_0
      try clear hcz160_1
      try clear hcz162_0
      try clear hcz162_1
      try clear hcz178_0
      try clear hcz178_1
      try clear hcz180_0
      try clear hcz180_1
      try clear hcz186_0
      try clear hcz186_1
      try clear hcz188_0
      try clear hcz188_1
      try clear hcz190_0
      try clear hcz190_1
      try clear hcz192_0
      try clear hcz192_1
      try clear hcz19_0
      try clear hcz19_1
      try clear hcz21_0
      try clear hcz21_1
      try clear hcz26_0
      try clear hcz26_1
      try clear hcz28_0
      try clear hcz28_1
      try clear hcz34_0
      try clear hcz34_1
      try clear hcz37_0
      try clear hcz37_1
      try clear hcz53_0
      try clear hcz53_1
      try clear hcz58_0
      try clear hcz58_1
      try clear hcz60_0
      try clear hcz60_1
      try clear hcz65_0
      try clear hcz65_1
      try clear hcz67_0
      try clear hcz67_1
      try clear hcz71_0
      try clear hcz71_1
      try clear hcz72_0
      try clear hcz72_1
      try clear hcz74_0
      try clear hcz74_1
      try clear hcz91_0
      try clear hcz91_1
      try clear hcz93_0
      try clear hcz93_1
      try clear hfz104_0
      try clear hfz104_1
      try clear hfz110_0
      try clear hfz110_1
      try clear hfz112_0
      try clear hfz112_1
      try clear hfz117_0
      try clear hfz117_1
      try clear hfz119_0
      try clear hfz119_1
      try clear hfz130_0
      try clear hfz130_1
      try clear hfz135_0
      try clear hfz135_1
      try clear hfz148_0
      try clear hfz148_1
      try clear hfz14_0
      try clear hfz14_1
      try clear hfz153_0
      try clear hfz153_1
      try clear hfz155_0
      try clear hfz155_1
      try clear hfz160_0
      try clear hfz160_1
      try clear hfz162_0
      try clear hfz162_1
      try clear hfz178_0
      try clear hfz178_1
      try clear hfz180_0
      try clear hfz180_1
      try clear hfz186_0
      try clear hfz186_1
      try clear hfz188_0
      try clear hfz188_1
      try clear hfz190_0
      try clear hfz190_1
      try clear hfz192_0
      try clear hfz192_1
      try clear hfz19_0
      try clear hfz19_1
      try clear hfz21_0
      try clear hfz21_1
      try clear hfz26_0
      try clear hfz26_1
      try clear hfz28_0
      try clear hfz28_1
      try clear hfz34_0
      try clear hfz34_1
      try clear hfz37_0
      try clear hfz37_1
      try clear hfz53_0
      try clear hfz53_1
      try clear hfz58_0
      try clear hfz58_1
      try clear hfz60_0
      try clear hfz60_1
      try clear hfz65_0
      try clear hfz65_1
      try clear hfz67_0
      try clear hfz67_1
      try clear hfz71_0
      try clear hfz71_1
      try clear hfz72_0
      try clear hfz72_1
      try clear hfz74_0
      try clear hfz74_1
      try clear hfz91_0
      try clear hfz91_1
      try clear hfz93_0
      try clear hfz93_1
      try clear hx620_0
      try clear hx625_0
      try clear p2
      try clear p6
      try clear p62
      try clear p620
      try clear p625
      try clear p64
      try clear q6
      try clear q62
      try clear q620
      try clear q625
      try clear q8
      try clear q81
      obtain ⟨kq, HA, HJ144, HB⟩ := hcut
      cases kq with
      | zero => exact absurd HA.out (by simp [laws_FnStartsTaken.j5])
      | succ kj144 =>
       have H := HA.out
       clear HA
       simp only [laws_FnStartsTaken.j5] at H
       obtain ⟨⟨t695, t696, t699, t700⟩, A195, H⟩ := ob_ H
       (try dsimp only at H)
       obtain ⟨⟨t705, t706, t709⟩, A196, H⟩ := ob_ H
       (try dsimp only at H)
       obtain ⟨⟨t711, t712, t715⟩, A197, H⟩ := ob_ H
       (try dsimp only at H)
       by_cases c198 : (t709 != t715) = true
       ·rw [if_pos c198] at H
        cases H
       rw [if_neg c198] at H
       have c198b0 : (t709 != t715) = false := by simpa using c198
       (try (have c198b1 : decide (t709 = t715) = true := by simpa using c198))
       (try (have c198b2 : (t709 == t715) = true := by simpa using c198))
       clear c198
       obtain ⟨t717, A199, H⟩ := ob_ H
       (try dsimp only at H)
       by_cases c200 : t717 = true
       rotate_left
       ·replace c200 := Bool.eq_false_iff.mpr c200
        subst c200
        rw [if_neg (show ¬ (false = true) by decide)] at H
        cases H
       subst c200
       rw [if_pos rfl] at H
       have HC201 := a_ H
       clear H
       go_upto_if 349 with (first | ((with_reducible refine gate_callee (f := 23) rfl ?_); refine gm_ (some 325) Try.func23 #[.slice A1 l1.length c1] rfl ?_; (with_reducible refine (spec_DrawBesideLadders.calls kj144 _ _ l1 t695 t696 t699 t700 _ ?side1 ?side2 A195.out).mono ?_); (case side1 => exact Cl_ (Kd.C_below HR1.out HB.out)); (case side2 => exact HC1.out); rintro e w202 ⟨v697, v701, rfl, ho0, ho1, hb⟩; refine ⟨_, rfl, ?_⟩; have HO698 := a_ (Kd.R_lower ho0 (below_size (Bl_ HB))); have HO702 := a_ (Kd.R_lower ho1 (below_size (Bl_ HB))); replace HB := Bs_ HB hb; (try clear hb); (try clear hb2); (try clear hk); (try clear hi); (try clear ho0); (try clear ho1)) | ((with_reducible refine gate_dst (N := 47) rfl ?_); (try (refine gate_guard (by rfl) ?_; dsimp only)); refine bx_ #[.int .i64 0, .slice none 0 0] 26 ?_ 47; intro gb703 hg w203 hbox hb; replace HO698 := a_ (Kd.R_below (Rl_ HO698.out) hb); replace HO702 := a_ (Kd.R_below (Rl_ HO702.out) hb); have BK703 := a_ (hbox); have GW703 := gw_ HB hg; have GE703 := gw_ HB hg; replace HB := Bs_ HB hb; clear hb hbox hg) | ((with_reducible refine gate_dst (N := 48) rfl ?_); (try (refine gate_guard (by rfl) ?_; dsimp only)); refine bx_ #[.int .i64 0, .slice none 0 0] 26 ?_ 48; intro gb704 hg w204 hbox hb; replace HO698 := a_ (Kd.R_below (Rl_ HO698.out) hb); replace HO702 := a_ (Kd.R_below (Rl_ HO702.out) hb); have BK704 := a_ (hbox); have GW704 := gw_ HB hg; have GE704 := gw_ HB hg; replace HB := Bs_ HB hb; have NB703_704 := nbl_ BK703 hg; have NB704_703 := nbg_ BK703 hg; replace BK703 := blkB_ BK703 hb; clear hb hbox hg; have hnb205 := NB703_704.out; have hnc205 := NB704_703.out; have hcz206_0 := cz_ (.int .i64 0) BK703 0; have hcz206_1 := cz_ (.slice none 0 0) BK703 1; have hfz206_0 := fz_ BK703 0; have hfz206_1 := fz_ BK703 1; obtain ⟨Ao207, co207, eo207⟩ := Kd.R_slice HO698.out; subst eo207; have hcz208_0 := cz_ (.int .i64 0) BK704 0; have hcz208_1 := cz_ (.slice none 0 0) BK704 1; have hfz208_0 := fz_ BK704 0; have hfz208_1 := fz_ BK704 1; obtain ⟨Ao209, co209, eo209⟩ := Kd.R_slice HO702.out; subst eo209) | ((with_reducible refine gate_callee (f := 24) rfl ?_); refine gm_ (some 331) Try.func24 #[.agg #[.int .i64 t695, .slice Ao207 t696.length co207], .agg #[.int .i64 t699, .slice Ao209 t700.length co209]] rfl ?_; (with_reducible refine (impl_BesideLadders.calls kj144 t695 _ _ t696 t699 _ _ t700 t705 t706 t709 _ ?side1 ?side2 ?side3 ?side4 A196.out).mono ?_); (case side1 => refine (Kd.R_reads' (e := 3) (base := w.heap.size) (ok := fun k_ => some k_ ≠ (.slice Ao209 t700.length co209 : Value).ownBlock) (n := t696.length) (c := co207) ?_).2.2; exact (Rl_ (Kd.R_mono (Kd.R_mono (Kd.R_far (p := ⟨gb704, 1, none⟩) (Kd.R_far (p := ⟨gb704, 0, none⟩) (Kd.R_far (p := ⟨gb703, 1, none⟩) (Kd.R_far (p := ⟨gb703, 0, none⟩) (Kd.R_types (Kd.R_types HO698.out BK703.out (by decide)) BK704.out (by decide)) (fun _ hk => hk.1.2) (.int .i64 t695)) (fun _ hk => hk.1.2) (.slice Ao207 t696.length co207)) (fun _ hk => hk.2) (.int .i64 t699)) (fun _ hk => hk.2) (.slice Ao209 t700.length co209)) (fun _ h_ => h_.1)) (fun _ h_ => h_.1)))); (case side2 => exact (Kd.R_reads' HO698.out).2.1); (case side3 => refine (Kd.R_reads' (e := 3) (base := w.heap.size) (ok := fun k_ => some k_ ≠ (.slice Ao207 t696.length co207 : Value).ownBlock) (n := t700.length) (c := co209) ?_).2.2; exact (Rl_ (Kd.R_mono (Kd.R_mono (Kd.R_far (p := ⟨gb704, 1, none⟩) (Kd.R_far (p := ⟨gb704, 0, none⟩) (Kd.R_far (p := ⟨gb703, 1, none⟩) (Kd.R_far (p := ⟨gb703, 0, none⟩) (Kd.R_types (Kd.R_types HO702.out BK703.out (by decide)) BK704.out (by decide)) (fun _ hk => hk.1.2) (.int .i64 t695)) (fun _ hk => hk.1.2) (.slice Ao207 t696.length co207)) (fun _ hk => hk.2) (.int .i64 t699)) (fun _ hk => hk.2) (.slice Ao209 t700.length co209)) (fun _ h_ => h_.1)) (fun _ h_ => h_.1)))); (case side4 => exact (Kd.R_reads' HO702.out).2.1); rintro e w210 ⟨v707, rfl, ho0, hb⟩; refine ⟨_, rfl, ?_⟩; have HO708 := a_ (Kd.R_lower (Kd.R_new' (Kd.R_new' ho0 (Kd.R_lt (Rl_ (Kd.R_mono (Kd.R_mono (Kd.R_far (p := ⟨gb704, 1, none⟩) (Kd.R_far (p := ⟨gb704, 0, none⟩) (Kd.R_far (p := ⟨gb703, 1, none⟩) (Kd.R_far (p := ⟨gb703, 0, none⟩) (Kd.R_types (Kd.R_types HO698.out BK703.out (by decide)) BK704.out (by decide)) (fun _ hk => hk.1.2) (.int .i64 t695)) (fun _ hk => hk.1.2) (.slice Ao207 t696.length co207)) (fun _ hk => hk.2) (.int .i64 t699)) (fun _ hk => hk.2) (.slice Ao209 t700.length co209)) (fun _ h_ => h_.1)) (fun _ h_ => h_.1))))) (Kd.R_lt (Rl_ (Kd.R_mono (Kd.R_mono (Kd.R_far (p := ⟨gb704, 1, none⟩) (Kd.R_far (p := ⟨gb704, 0, none⟩) (Kd.R_far (p := ⟨gb703, 1, none⟩) (Kd.R_far (p := ⟨gb703, 0, none⟩) (Kd.R_types (Kd.R_types HO702.out BK703.out (by decide)) BK704.out (by decide)) (fun _ hk => hk.1.2) (.int .i64 t695)) (fun _ hk => hk.1.2) (.slice Ao207 t696.length co207)) (fun _ hk => hk.2) (.int .i64 t699)) (fun _ hk => hk.2) (.slice Ao209 t700.length co209)) (fun _ h_ => h_.1)) (fun _ h_ => h_.1))))) (below_size (Bl_ HB))); replace HO698 := a_ (Kd.R_elder' (Rl_ (Kd.R_mono (Kd.R_mono (Kd.R_far (p := ⟨gb704, 1, none⟩) (Kd.R_far (p := ⟨gb704, 0, none⟩) (Kd.R_far (p := ⟨gb703, 1, none⟩) (Kd.R_far (p := ⟨gb703, 0, none⟩) (Kd.R_types (Kd.R_types HO698.out BK703.out (by decide)) BK704.out (by decide)) (fun _ hk => hk.1.2) (.int .i64 t695)) (fun _ hk => hk.1.2) (.slice Ao207 t696.length co207)) (fun _ hk => hk.2) (.int .i64 t699)) (fun _ hk => hk.2) (.slice Ao209 t700.length co209)) (fun _ h_ => h_.1)) (fun _ h_ => h_.1))) (Kd.R_base ho0) hb); replace HO702 := a_ (Kd.R_elder' (Rl_ (Kd.R_mono (Kd.R_mono (Kd.R_far (p := ⟨gb704, 1, none⟩) (Kd.R_far (p := ⟨gb704, 0, none⟩) (Kd.R_far (p := ⟨gb703, 1, none⟩) (Kd.R_far (p := ⟨gb703, 0, none⟩) (Kd.R_types (Kd.R_types HO702.out BK703.out (by decide)) BK704.out (by decide)) (fun _ hk => hk.1.2) (.int .i64 t695)) (fun _ hk => hk.1.2) (.slice Ao207 t696.length co207)) (fun _ hk => hk.2) (.int .i64 t699)) (fun _ hk => hk.2) (.slice Ao209 t700.length co209)) (fun _ h_ => h_.1)) (fun _ h_ => h_.1))) (Kd.R_base ho0) hb); replace BK703 := a_ (blk_below (g := gb703) (o := .cells #[.int .i64 t695, .slice Ao207 t696.length co207] 26 (0, 0)) (by (with_reducible repeat (first | refine blk_drewN ?_ _ | refine blk_drew ?_ | refine blk_alloc ?_ _)); refine blk_far ?_ NB703_704.out _; (with_reducible repeat (first | refine blk_drewN ?_ _ | refine blk_drew ?_ | refine blk_alloc ?_ _)); refine blk_far ?_ NB703_704.out _; (with_reducible repeat (first | refine blk_drewN ?_ _ | refine blk_drew ?_ | refine blk_alloc ?_ _)); refine blk_put (cs := #[.int .i64 t695, .slice none 0 0]) ?_ 1 _ rfl; (with_reducible repeat (first | refine blk_drewN ?_ _ | refine blk_drew ?_ | refine blk_alloc ?_ _)); refine blk_put (cs := #[.int .i64 0, .slice none 0 0]) ?_ 0 _ rfl; (with_reducible repeat (first | refine blk_drewN ?_ _ | refine blk_drew ?_ | refine blk_alloc ?_ _)); exact BK703.out) hb); replace BK704 := a_ (blk_below (g := gb704) (o := .cells #[.int .i64 t699, .slice Ao209 t700.length co209] 26 (0, 0)) (by (with_reducible repeat (first | refine blk_drewN ?_ _ | refine blk_drew ?_ | refine blk_alloc ?_ _)); refine blk_put (cs := #[.int .i64 t699, .slice none 0 0]) ?_ 1 _ rfl; (with_reducible repeat (first | refine blk_drewN ?_ _ | refine blk_drew ?_ | refine blk_alloc ?_ _)); refine blk_put (cs := #[.int .i64 0, .slice none 0 0]) ?_ 0 _ rfl; (with_reducible repeat (first | refine blk_drewN ?_ _ | refine blk_drew ?_ | refine blk_alloc ?_ _)); refine blk_far ?_ NB704_703.out _; (with_reducible repeat (first | refine blk_drewN ?_ _ | refine blk_drew ?_ | refine blk_alloc ?_ _)); refine blk_far ?_ NB704_703.out _; (with_reducible repeat (first | refine blk_drewN ?_ _ | refine blk_drew ?_ | refine blk_alloc ?_ _)); exact BK704.out) hb); replace HB := Bs_ HB hb; (try clear hb); (try clear hb2); (try clear hk); (try clear hi); (try clear ho0)) | ((with_reducible refine gate_dst (N := 49) rfl ?_); (try (refine gate_guard (by rfl) ?_; dsimp only)); refine bx_ #[.int .i64 0, .slice none 0 0] 26 ?_ 49; intro gb710 hg w211 hbox hb; replace HO698 := a_ (Kd.R_below (Rl_ HO698.out) hb); replace HO702 := a_ (Kd.R_below (Rl_ HO702.out) hb); replace HO708 := a_ (Kd.R_below (Rl_ HO708.out) hb); have BK710 := a_ (hbox); have GW710 := gw_ HB hg; have GE710 := gw_ HB hg; replace HB := Bs_ HB hb; have NB703_710 := nbl_ BK703 hg; have NB710_703 := nbg_ BK703 hg; replace BK703 := blkB_ BK703 hb; have NB704_710 := nbl_ BK704 hg; have NB710_704 := nbg_ BK704 hg; replace BK704 := blkB_ BK704 hb; clear hb hbox hg; have hnb212 := NB710_703.out; have hnc212 := NB703_710.out; have hnb213 := NB710_704.out; have hnc213 := NB704_710.out; have hcz214_0 := cz_ (.int .i64 0) BK710 0; have hcz214_1 := cz_ (.slice none 0 0) BK710 1; have hfz214_0 := fz_ BK710 0; have hfz214_1 := fz_ BK710 1; obtain ⟨Ao215, co215, eo215⟩ := Kd.R_slice HO708.out; subst eo215; have hcz216_0 := cz_ (.int .i64 t695) BK703 0; have hcz216_1 := cz_ (.slice Ao207 t696.length co207) BK703 1; have hfz216_0 := fz_ BK703 0; have hfz216_1 := fz_ BK703 1; have hcz217_0 := cz_ (.int .i64 t699) BK704 0; have hcz217_1 := cz_ (.slice Ao209 t700.length co209) BK704 1; have hfz217_0 := fz_ BK704 0; have hfz217_1 := fz_ BK704 1) | ((with_reducible refine gate_callee (f := 25) rfl ?_); refine gm_ (some 337) Try.func25 #[.agg #[.int .i64 t695, .slice Ao207 t696.length co207], .agg #[.int .i64 t699, .slice Ao209 t700.length co209]] rfl ?_; (with_reducible refine (spec_BesideLadders.calls kj144 t695 _ _ t696 t699 _ _ t700 t711 t712 t715 _ ?side1 ?side2 ?side3 ?side4 A197.out).mono ?_); (case side1 => refine (Kd.R_reads' (e := 3) (base := w.heap.size) (ok := fun k_ => (some k_ ≠ (.slice Ao209 t700.length co209 : Value).ownBlock ∧ some k_ ≠ (.slice Ao215 t706.length co215 : Value).ownBlock)) (n := t696.length) (c := co207) ?_).2.2; exact (Rl_ (Rf2_ HO698.out BK710.out (by decide) (.int .i64 t705) (.slice Ao215 t706.length co215)))); (case side2 => exact (Kd.R_reads' HO698.out).2.1); (case side3 => refine (Kd.R_reads' (e := 3) (base := w.heap.size) (ok := fun k_ => (some k_ ≠ (.slice Ao207 t696.length co207 : Value).ownBlock ∧ some k_ ≠ (.slice Ao215 t706.length co215 : Value).ownBlock)) (n := t700.length) (c := co209) ?_).2.2; exact (Rl_ (Rf2_ HO702.out BK710.out (by decide) (.int .i64 t705) (.slice Ao215 t706.length co215)))); (case side4 => exact (Kd.R_reads' HO702.out).2.1); rintro e w218 ⟨v713, rfl, ho0, hb⟩; refine ⟨_, rfl, ?_⟩; have HO714 := a_ (Kd.R_lower (Kd.R_new' (Kd.R_new' (Kd.R_new' ho0 (Kd.R_lt (Rl_ (Rf2_ HO698.out BK710.out (by decide) (.int .i64 t705) (.slice Ao215 t706.length co215))))) (Kd.R_lt (Rl_ (Rf2_ HO702.out BK710.out (by decide) (.int .i64 t705) (.slice Ao215 t706.length co215))))) (Kd.R_lt (Rl_ (Rf2_ HO708.out BK710.out (by decide) (.int .i64 t705) (.slice Ao215 t706.length co215))))) (below_size (Bl_ HB))); replace HO698 := a_ (Kd.R_elder' (Rl_ (Rf2_ HO698.out BK710.out (by decide) (.int .i64 t705) (.slice Ao215 t706.length co215))) (Kd.R_base ho0) hb); replace HO702 := a_ (Kd.R_elder' (Rl_ (Rf2_ HO702.out BK710.out (by decide) (.int .i64 t705) (.slice Ao215 t706.length co215))) (Kd.R_base ho0) hb); replace HO708 := a_ (Kd.R_elder' (Rl_ (Rf2_ HO708.out BK710.out (by decide) (.int .i64 t705) (.slice Ao215 t706.length co215))) (Kd.R_base ho0) hb); replace BK703 := blkF_ BK703 NB703_710 hb; replace BK704 := blkF_ BK704 NB704_710 hb; replace BK710 := a_ (blk_below (g := gb710) (o := .cells #[.int .i64 t705, .slice Ao215 t706.length co215] 26 (0, 0)) (by (with_reducible repeat (first | refine blk_drewN ?_ _ | refine blk_drew ?_ | refine blk_alloc ?_ _)); refine blk_put (cs := #[.int .i64 t705, .slice none 0 0]) ?_ 1 _ rfl; (with_reducible repeat (first | refine blk_drewN ?_ _ | refine blk_drew ?_ | refine blk_alloc ?_ _)); refine blk_put (cs := #[.int .i64 0, .slice none 0 0]) ?_ 0 _ rfl; (with_reducible repeat (first | refine blk_drewN ?_ _ | refine blk_drew ?_ | refine blk_alloc ?_ _)); exact BK710.out) hb); replace HB := Bs_ HB hb; (try clear hb); (try clear hb2); (try clear hk); (try clear hi); (try clear ho0)) | ((with_reducible refine gate_dst (N := 51) rfl ?_); (try (refine gate_guard (by rfl) ?_; dsimp only)); refine bx_ #[.int .i64 0, .slice none 0 0] 26 ?_ 51; intro gb716 hg w219 hbox hb; replace HO698 := a_ (Kd.R_below (Rl_ HO698.out) hb); replace HO702 := a_ (Kd.R_below (Rl_ HO702.out) hb); replace HO708 := a_ (Kd.R_below (Rl_ HO708.out) hb); replace HO714 := a_ (Kd.R_below (Rl_ HO714.out) hb); have BK716 := a_ (hbox); have GW716 := gw_ HB hg; have GE716 := gw_ HB hg; replace HB := Bs_ HB hb; have NB703_716 := nbl_ BK703 hg; have NB716_703 := nbg_ BK703 hg; replace BK703 := blkB_ BK703 hb; have NB704_716 := nbl_ BK704 hg; have NB716_704 := nbg_ BK704 hg; replace BK704 := blkB_ BK704 hb; have NB710_716 := nbl_ BK710 hg; have NB716_710 := nbg_ BK710 hg; replace BK710 := blkB_ BK710 hb; clear hb hbox hg; have hnb220 := NB716_703.out; have hnc220 := NB703_716.out; have hnb221 := NB716_704.out; have hnc221 := NB704_716.out; have hnb222 := NB716_710.out; have hnc222 := NB710_716.out; have hcz223_0 := cz_ (.int .i64 0) BK716 0; have hcz223_1 := cz_ (.slice none 0 0) BK716 1; have hfz223_0 := fz_ BK716 0; have hfz223_1 := fz_ BK716 1; obtain ⟨Ao224, co224, eo224⟩ := Kd.R_slice HO714.out; subst eo224; have hcz225_0 := cz_ (.int .i64 t705) BK710 0; have hcz225_1 := cz_ (.slice Ao215 t706.length co215) BK710 1; have hfz225_0 := fz_ BK710 0; have hfz225_1 := fz_ BK710 1) | (go_at_call 8; (with_reducible refine (laws_kLadder.calls kj144 t705 _ _ t706 t711 _ _ t712 true _ ?side1 ?side2 ?side3 ?side4 A199.out).mono ?_); (case side1 => refine (Kd.R_reads' (e := 3) (base := w.heap.size) (ok := fun k_ => (((True ∧ some k_ ≠ (.slice Ao207 t696.length co207 : Value).ownBlock) ∧ some k_ ≠ (.slice Ao209 t700.length co209 : Value).ownBlock) ∧ some k_ ≠ (.slice Ao224 t712.length co224 : Value).ownBlock)) (n := t706.length) (c := co215) ?_).2.2; exact (Rl_ (Rf2_ HO708.out BK716.out (by decide) (.int .i64 t711) (.slice Ao224 t712.length co224)))); (case side2 => exact (Kd.R_reads' HO708.out).2.1); (case side3 => refine (Kd.R_reads' (e := 3) (base := w.heap.size) (ok := fun k_ => (((True ∧ some k_ ≠ (.slice Ao207 t696.length co207 : Value).ownBlock) ∧ some k_ ≠ (.slice Ao209 t700.length co209 : Value).ownBlock) ∧ some k_ ≠ (.slice Ao215 t706.length co215 : Value).ownBlock)) (n := t712.length) (c := co224) ?_).2.2; exact (Rl_ (Rf2_ HO714.out BK716.out (by decide) (.int .i64 t711) (.slice Ao224 t712.length co224)))); (case side4 => exact (Kd.R_reads' HO714.out).2.1); rintro e w226 ⟨rfl, hb⟩; replace HO698 := a_ (Kd.R_below (Rl_ (Rf2_ HO698.out BK716.out (by decide) (.int .i64 t711) (.slice Ao224 t712.length co224))) hb); replace HO702 := a_ (Kd.R_below (Rl_ (Rf2_ HO702.out BK716.out (by decide) (.int .i64 t711) (.slice Ao224 t712.length co224))) hb); replace HO708 := a_ (Kd.R_below (Rl_ (Rf2_ HO708.out BK716.out (by decide) (.int .i64 t711) (.slice Ao224 t712.length co224))) hb); replace HO714 := a_ (Kd.R_below (Rl_ (Rf2_ HO714.out BK716.out (by decide) (.int .i64 t711) (.slice Ao224 t712.length co224))) hb); replace BK703 := blkF_ BK703 NB703_716 hb; replace BK704 := blkF_ BK704 NB704_716 hb; replace BK710 := blkF_ BK710 NB710_716 hb; replace BK716 := a_ (blk_below (g := gb716) (o := .cells #[.int .i64 t711, .slice Ao224 t712.length co224] 26 (0, 0)) (by (with_reducible repeat (first | refine blk_drewN ?_ _ | refine blk_drew ?_ | refine blk_alloc ?_ _)); refine blk_put (cs := #[.int .i64 t711, .slice none 0 0]) ?_ 1 _ rfl; (with_reducible repeat (first | refine blk_drewN ?_ _ | refine blk_drew ?_ | refine blk_alloc ?_ _)); refine blk_put (cs := #[.int .i64 0, .slice none 0 0]) ?_ 0 _ rfl; (with_reducible repeat (first | refine blk_drewN ?_ _ | refine blk_drew ?_ | refine blk_alloc ?_ _)); exact BK716.out) hb); replace HB := Bs_ HB hb; (try clear hb); (try clear hb2); (try clear hk); (try clear hi)))
       (try simp only [Act.put, List.setIfInBounds_toArray, List.set_cons_zero, List.set_cons_succ])
       as_aux_lemma =>
       go_cut [] (fun wc => ∃ (kq : Nat), Aside0 (laws_FnStartsTaken.j7 kq l1 = some r) ∧ Aside0 (kq ≤ kj144) ∧ Aside0 (Below w.heap.size w wc))
       case first =>
        as_aux_lemma =>
        have H := HC201.out
        clear HC201
        by_cases c227 : t709 = true
        rotate_left
        ·replace c227 := Bool.eq_false_iff.mpr c227
         subst c227
         rw [if_neg (show ¬ (false = true) by decide)] at H
         have H' := a_ H
         clear H
         go_wp2
         go_meet
         case rel => exact ⟨_, H', ⟨by have := HJ10.out; have := HJ100.out; have := HJ144.out; first | omega | exact Nat.le_refl _⟩, ⟨Bl_ HB⟩⟩
        subst c227
        rw [if_pos rfl] at H
        obtain ⟨⟨t718, t719⟩, A228, H⟩ := ob_ H
        (try dsimp only at H)
        obtain ⟨t720, A229, H⟩ := ob_ H
        (try dsimp only at H)
        obtain ⟨t723, A230, H⟩ := ob_ H
        (try dsimp only at H)
        obtain ⟨t726, A231, H⟩ := ob_ H
        (try dsimp only at H)
        by_cases c232 : t719 = true
        rotate_left
        ·replace c232 := Bool.eq_false_iff.mpr c232
         subst c232
         rw [if_neg (show ¬ (false = true) by decide)] at H
         cases H
        subst c232
        rw [if_pos rfl] at H
        by_cases c233 : t718 = true
        rotate_left
        ·replace c233 := Bool.eq_false_iff.mpr c233
         subst c233
         rw [if_neg (show ¬ (false = true) by decide)] at H
         cases H
        subst c233
        rw [if_pos rfl] at H
        by_cases c234 : (t720.length : Int) = (wrap64 ((t723.length : Int) + (t726.length : Int)))
        rotate_left
        ·rw [if_neg c234] at H
         cases H
        rw [if_pos c234] at H
        have c234b0 : ((t720.length : Int) == (wrap64 ((t723.length : Int) + (t726.length : Int)))) = true := beq_iff_eq.mpr c234
        have c234b1 : ((t720.length : Int) != (wrap64 ((t723.length : Int) + (t726.length : Int)))) = false := bne_eq_false_iff_eq.mpr c234
        clear c234
        (first | rw [c234b0] | (simp only [i64_w, i32_w]; rw [c234b0]) | skip)
        have H' := a_ H
        clear H
        have hnb235 := NB710_703.out
        have hnc235 := NB703_710.out
        have hnb236 := NB710_704.out
        have hnc236 := NB704_710.out
        have hnb237 := NB710_716.out
        have hnc237 := NB716_710.out
        have hcz238_0 := cz_ (.int .i64 t705) BK710 0
        have hcz238_1 := cz_ (.slice Ao215 t706.length co215) BK710 1
        have hfz238_0 := fz_ BK710 0
        have hfz238_1 := fz_ BK710 1
        have hnb239 := NB703_704.out
        have hnc239 := NB704_703.out
        have hnb240 := NB703_716.out
        have hnc240 := NB716_703.out
        have hcz241_0 := cz_ (.int .i64 t695) BK703 0
        have hcz241_1 := cz_ (.slice Ao207 t696.length co207) BK703 1
        have hfz241_0 := fz_ BK703 0
        have hfz241_1 := fz_ BK703 1
        try go_wp2_with (first | ((with_reducible refine gate_callee (f := 26) rfl ?_); refine gm_ (some 354) Try.func26 #[.agg #[.int .i64 t705, .slice Ao215 t706.length co215], .int .i64 t695] rfl ?_; (with_reducible refine (impl_IsSplit.calls kj144 t705 _ _ t706 t695 true true _ ?side1 ?side2 A228.out).mono ?_); (case side1 => exact Cl_ (Kd.R_reads' HO708.out).2.2); (case side2 => exact (Kd.R_reads' HO708.out).2.1); rintro e w242 ⟨rfl, hb⟩; refine ⟨_, rfl, ?_⟩; replace HO698 := a_ (Kd.R_below (Rl_ HO698.out) hb); replace HO702 := a_ (Kd.R_below (Rl_ HO702.out) hb); replace HO708 := a_ (Kd.R_below (Rl_ HO708.out) hb); replace HO714 := a_ (Kd.R_below (Rl_ HO714.out) hb); replace BK703 := blkB_ BK703 hb; replace BK704 := blkB_ BK704 hb; replace BK710 := blkB_ BK710 hb; replace BK716 := blkB_ BK716 hb; replace HB := Bs_ HB hb; (try clear hb); (try clear hb2); (try clear hk); (try clear hi)))
        replace HO698 := a_ (Kd.R_drew HO698.out)
        replace HO702 := a_ (Kd.R_drew HO702.out)
        replace HO708 := a_ (Kd.R_drew HO708.out)
        replace HO714 := a_ (Kd.R_drew HO714.out)
        replace BK703 := a_ (blk_drew BK703.out)
        replace BK704 := a_ (blk_drew BK704.out)
        replace BK710 := a_ (blk_drew BK710.out)
        replace BK716 := a_ (blk_drew BK716.out)
        replace HB := a_ (below_drew1 HB.out)
        refine start_ (n := 9) (S := fun w' => w'.cell? ⟨gb710, 0, none⟩ = some (.int .i64 t705) ∧ w'.cell? ⟨gb710, 1, none⟩ = some (.slice Ao215 t706.length co215) ∧ w'.cell? ⟨gb703, 0, none⟩ = some (.int .i64 t695) ∧ w'.cell? ⟨gb703, 1, none⟩ = some (.slice Ao207 t696.length co207) ∧ w'.cell? ⟨gb704, 0, none⟩ = some (.int .i64 t699) ∧ w'.cell? ⟨gb704, 1, none⟩ = some (.slice Ao209 t700.length co209)) (ds := []) #[false, false, false, false, false, false, false, false, false] (by kernel_rfl) rfl rfl ⟨(blk_cell BK710.out 0).trans rfl, (blk_cell BK710.out 1).trans rfl, (blk_cell BK703.out 0).trans rfl, (blk_cell BK703.out 1).trans rfl, (blk_cell BK704.out 0).trans rfl, (blk_cell BK704.out 1).trans rfl⟩ (fun hHeld => ?_); refine with_tabW laws_FnStartsTaken.tab59 laws_FnStartsTaken.bits59 (fun HT_ HW_ => ?_)
        generalize w242.drew = w243 at HO698 HO702 HO708 HO714 BK703 BK704 BK710 BK716 HB hHeld ⊢
        refine take_ (i := 0) (N := some 357) (v := ?_) (a' := ?_) #[true, false, false, false, false, false, false, false, false] rfl rfl (take_ofW HT_.out HW_.out (by kernel_rfl)) (fun _ _ _ h => h) (Or.inl ⟨by rfl, ?_⟩) hHeld ?_ ?_
        rotate_left
        ·rintro w' ⟨s0, s1, s2, s3, s4, s5⟩
         go_simp
         with_reducible rfl
        rotate_left
        ·simp only [Act.put, List.setIfInBounds_toArray, List.set_cons_zero, List.set_cons_succ, i64_w, i32_w]
         rfl
        refine take_ (i := 2) (N := some 359) (v := ?_) (a' := ?_) #[true, false, true, false, false, false, false, false, false] rfl rfl (take_ofW HT_.out HW_.out (by kernel_rfl)) (fun _ _ _ h => h) (Or.inl ⟨by rfl, ?_⟩) hHeld ?_ ?_
        rotate_left
        ·rintro w' ⟨s0, s1, s2, s3, s4, s5⟩
         go_simp
         with_reducible rfl
        rotate_left
        ·simp only [Act.put, List.setIfInBounds_toArray, List.set_cons_zero, List.set_cons_succ, i64_w, i32_w]
         rfl
        refine take_ (i := 4) (N := some 361) (v := ?_) (a' := ?_) #[true, false, true, false, true, false, false, false, false] rfl rfl (take_ofW HT_.out HW_.out (by kernel_rfl)) (fun _ _ _ h => h) (Or.inl ⟨by rfl, ?_⟩) hHeld ?_ ?_
        rotate_left
        ·rintro w' ⟨s0, s1, s2, s3, s4, s5⟩
         go_simp
         with_reducible rfl
        rotate_left
        ·simp only [Act.put, List.setIfInBounds_toArray, List.set_cons_zero, List.set_cons_succ, i64_w, i32_w]
         rfl
        refine one_ (i := 1) (N := some 358) #[true, true, true, false, true, false, false, false, false] rfl rfl (one_of HT_.out (by kernel_rfl)) (by decide) (fun K hK => ?_)
        refine gs_ Try.func10 (by kernel_rfl) rfl #[.agg #[.int .i64 t705, .slice Ao215 t706.length co215]] (by rfl) rfl rfl ?_
        with_reducible refine (laws_kResult.calls kj144 t705 _ _ t706 t720 _ ?side1 ?side2 A229.out).mono ?_
        (case side1 => exact Cl_ (Kd.R_reads' HO708.out).2.2)
        (case side2 => exact (Kd.R_reads' HO708.out).2.1)
        rintro e w244 ⟨v721, rfl, ho0, hb⟩
        refine ⟨_, rfl, ?_⟩
        have HO722 := a_ (Kd.R_lower (Kd.R_new' (Kd.R_new' (Kd.R_new' (Kd.R_new' ho0 (Kd.R_lt (Rl_ HO698.out))) (Kd.R_lt (Rl_ HO702.out))) (Kd.R_lt (Rl_ HO708.out))) (Kd.R_lt (Rl_ HO714.out))) (below_size (Bl_ HB)))
        replace HO698 := a_ (Kd.R_elder' (Rl_ HO698.out) (Kd.R_base ho0) hb)
        replace HO702 := a_ (Kd.R_elder' (Rl_ HO702.out) (Kd.R_base ho0) hb)
        replace HO708 := a_ (Kd.R_elder' (Rl_ HO708.out) (Kd.R_base ho0) hb)
        replace HO714 := a_ (Kd.R_elder' (Rl_ HO714.out) (Kd.R_base ho0) hb)
        replace BK703 := blkB_ BK703 hb
        replace BK704 := blkB_ BK704 hb
        replace BK710 := blkB_ BK710 hb
        replace BK716 := blkB_ BK716 hb
        replace HB := Bs_ HB hb
        (try clear hb); (try clear hb2); (try clear hk); (try clear hi); (try clear ho0)
        refine hK.out _ _ ⟨(blk_cell BK710.out 0).trans rfl, (blk_cell BK710.out 1).trans rfl, (blk_cell BK703.out 0).trans rfl, (blk_cell BK703.out 1).trans rfl, (blk_cell BK704.out 0).trans rfl, (blk_cell BK704.out 1).trans rfl⟩ (fun hHeld => ?_)
        clear hK K
        refine norm_ (a' := ?_) ?_ ?_
        rotate_left
        ·show Act.put _ (some 358) _ = _
         simp only [Act.put, List.setIfInBounds_toArray, List.set_cons_zero, List.set_cons_succ, i64_w, i32_w]
         rfl
        refine one_ (i := 3) (N := some 360) #[true, true, true, true, true, false, false, false, false] rfl rfl (one_of HT_.out (by kernel_rfl)) (by decide) (fun K hK => ?_)
        refine gs_ Try.func10 (by kernel_rfl) rfl #[.agg #[.int .i64 t695, .slice Ao207 t696.length co207]] (by rfl) rfl rfl ?_
        with_reducible refine (laws_kResult.calls kj144 t695 _ _ t696 t723 _ ?side1 ?side2 A230.out).mono ?_
        (case side1 => exact Cl_ (Kd.R_reads' HO698.out).2.2)
        (case side2 => exact (Kd.R_reads' HO698.out).2.1)
        rintro e w245 ⟨v724, rfl, ho0, hb⟩
        refine ⟨_, rfl, ?_⟩
        have HO725 := a_ (Kd.R_lower (Kd.R_new' (Kd.R_new' (Kd.R_new' (Kd.R_new' (Kd.R_new' ho0 (Kd.R_lt (Rl_ HO698.out))) (Kd.R_lt (Rl_ HO702.out))) (Kd.R_lt (Rl_ HO708.out))) (Kd.R_lt (Rl_ HO714.out))) (Kd.R_lt (Rl_ HO722.out))) (below_size (Bl_ HB)))
        replace HO698 := a_ (Kd.R_elder' (Rl_ HO698.out) (Kd.R_base ho0) hb)
        replace HO702 := a_ (Kd.R_elder' (Rl_ HO702.out) (Kd.R_base ho0) hb)
        replace HO708 := a_ (Kd.R_elder' (Rl_ HO708.out) (Kd.R_base ho0) hb)
        replace HO714 := a_ (Kd.R_elder' (Rl_ HO714.out) (Kd.R_base ho0) hb)
        replace HO722 := a_ (Kd.R_elder' (Rl_ HO722.out) (Kd.R_base ho0) hb)
        replace BK703 := blkB_ BK703 hb
        replace BK704 := blkB_ BK704 hb
        replace BK710 := blkB_ BK710 hb
        replace BK716 := blkB_ BK716 hb
        replace HB := Bs_ HB hb
        (try clear hb); (try clear hb2); (try clear hk); (try clear hi); (try clear ho0)
        refine hK.out _ _ ⟨(blk_cell BK710.out 0).trans rfl, (blk_cell BK710.out 1).trans rfl, (blk_cell BK703.out 0).trans rfl, (blk_cell BK703.out 1).trans rfl, (blk_cell BK704.out 0).trans rfl, (blk_cell BK704.out 1).trans rfl⟩ (fun hHeld => ?_)
        clear hK K
        refine norm_ (a' := ?_) ?_ ?_
        rotate_left
        ·show Act.put _ (some 360) _ = _
         simp only [Act.put, List.setIfInBounds_toArray, List.set_cons_zero, List.set_cons_succ, i64_w, i32_w]
         rfl
        refine one_ (i := 5) (N := some 362) #[true, true, true, true, true, true, false, false, false] rfl rfl (one_of HT_.out (by kernel_rfl)) (by decide) (fun K hK => ?_)
        refine gs_ Try.func10 (by kernel_rfl) rfl #[.agg #[.int .i64 t699, .slice Ao209 t700.length co209]] (by rfl) rfl rfl ?_
        with_reducible refine (laws_kResult.calls kj144 t699 _ _ t700 t726 _ ?side1 ?side2 A231.out).mono ?_
        (case side1 => exact Cl_ (Kd.R_reads' HO702.out).2.2)
        (case side2 => exact (Kd.R_reads' HO702.out).2.1)
        rintro e w246 ⟨v727, rfl, ho0, hb⟩
        refine ⟨_, rfl, ?_⟩
        have HO728 := a_ (Kd.R_lower (Kd.R_new' (Kd.R_new' (Kd.R_new' (Kd.R_new' (Kd.R_new' (Kd.R_new' ho0 (Kd.R_lt (Rl_ HO698.out))) (Kd.R_lt (Rl_ HO702.out))) (Kd.R_lt (Rl_ HO708.out))) (Kd.R_lt (Rl_ HO714.out))) (Kd.R_lt (Rl_ HO722.out))) (Kd.R_lt (Rl_ HO725.out))) (below_size (Bl_ HB)))
        replace HO698 := a_ (Kd.R_elder' (Rl_ HO698.out) (Kd.R_base ho0) hb)
        replace HO702 := a_ (Kd.R_elder' (Rl_ HO702.out) (Kd.R_base ho0) hb)
        replace HO708 := a_ (Kd.R_elder' (Rl_ HO708.out) (Kd.R_base ho0) hb)
        replace HO714 := a_ (Kd.R_elder' (Rl_ HO714.out) (Kd.R_base ho0) hb)
        replace HO722 := a_ (Kd.R_elder' (Rl_ HO722.out) (Kd.R_base ho0) hb)
        replace HO725 := a_ (Kd.R_elder' (Rl_ HO725.out) (Kd.R_base ho0) hb)
        replace BK703 := blkB_ BK703 hb
        replace BK704 := blkB_ BK704 hb
        replace BK710 := blkB_ BK710 hb
        replace BK716 := blkB_ BK716 hb
        replace HB := Bs_ HB hb
        (try clear hb); (try clear hb2); (try clear hk); (try clear hi); (try clear ho0)
        refine hK.out _ _ ⟨(blk_cell BK710.out 0).trans rfl, (blk_cell BK710.out 1).trans rfl, (blk_cell BK703.out 0).trans rfl, (blk_cell BK703.out 1).trans rfl, (blk_cell BK704.out 0).trans rfl, (blk_cell BK704.out 1).trans rfl⟩ (fun hHeld => ?_)
        clear hK K
        refine norm_ (a' := ?_) ?_ ?_
        rotate_left
        ·show Act.put _ (some 362) _ = _
         simp only [Act.put, List.setIfInBounds_toArray, List.set_cons_zero, List.set_cons_succ, i64_w, i32_w]
         rfl
        refine pure_ (i := 6) (N := some 55) (v := ?_) (a' := ?_) #[true, true, true, true, true, true, true, false, false] rfl rfl (any_of HT_.out (by kernel_rfl)) (fun _ _ _ h => h) (Or.inl ⟨by rfl, ?_⟩) ?_ ?_
        rotate_left
        ·intro w'
         go_simp
         with_reducible rfl
        rotate_left
        ·simp only [Act.put, List.setIfInBounds_toArray, List.set_cons_zero, List.set_cons_succ, i64_w, i32_w]
         rfl
        refine pure_ (i := 7) (N := some 56) (v := ?_) (a' := ?_) #[true, true, true, true, true, true, true, true, false] rfl rfl (any_of HT_.out (by kernel_rfl)) (fun _ _ _ h => h) (Or.inl ⟨by rfl, ?_⟩) ?_ ?_
        rotate_left
        ·intro w'
         go_simp
         with_reducible rfl
        rotate_left
        ·simp only [Act.put, List.setIfInBounds_toArray, List.set_cons_zero, List.set_cons_succ, i64_w, i32_w]
         rfl
        refine pure_ (i := 8) (N := some 57) (v := ?_) (a' := ?_) #[true, true, true, true, true, true, true, true, true] rfl rfl (any_of HT_.out (by kernel_rfl)) (fun _ _ _ h => h) (Or.inl ⟨by rfl, ?_⟩) ?_ ?_
        rotate_left
        ·intro w'
         go_simp
         with_reducible rfl
        rotate_left
        ·simp only [Act.put, List.setIfInBounds_toArray, List.set_cons_zero, List.set_cons_succ, i64_w, i32_w]
         rfl
        refine done_ (done_of HT_.out (by kernel_rfl)) ?_
        obtain ⟨Ao247, co247, eo247⟩ := Kd.R_slice HO722.out
        subst eo247
        obtain ⟨Ao248, co248, eo248⟩ := Kd.R_slice HO725.out
        subst eo248
        obtain ⟨Ao249, co249, eo249⟩ := Kd.R_slice HO728.out
        subst eo249
        try go_wp2
        go_loopg [381] kj144 (fun kq v381 w' => ∃ (x381_4 : Int), v381 = .int .i64 x381_4 ∧ Aside0 (laws_FnStartsTaken.l3 kq l1 t723 t726 t720 (t720.length : Int) x381_4 = some r) ∧ Aside0 (kq ≤ kj144) ∧ Aside0 (Kd.R (Kd.int .i64) 3 w' w.heap.size (fun k_ => some k_ ≠ ((.slice Ao249 t726.length co249) : Value).ownBlock ∧ some k_ ≠ ((.slice Ao247 t720.length co247) : Value).ownBlock) (.slice Ao248 t723.length co248) t723) ∧ Aside0 (Kd.R (Kd.int .i64) 3 w' w.heap.size (fun k_ => some k_ ≠ ((.slice Ao248 t723.length co248) : Value).ownBlock ∧ some k_ ≠ ((.slice Ao247 t720.length co247) : Value).ownBlock) (.slice Ao249 t726.length co249) t726) ∧ Aside0 (Kd.R (Kd.int .i64) 3 w' w.heap.size (fun k_ => some k_ ≠ ((.slice Ao248 t723.length co248) : Value).ownBlock ∧ some k_ ≠ ((.slice Ao249 t726.length co249) : Value).ownBlock) (.slice Ao247 t720.length co247) t720) ∧ Aside0 (Below w.heap.size w w'))
        case atStart => exact ⟨(0), rs_, H', ⟨Nat.le_refl _⟩, ⟨Rl_ (Kd.R_mono HO725.out (fun _ hk => ⟨hk.2, hk.1.2⟩))⟩, ⟨Rl_ (Kd.R_mono HO728.out (fun _ hk => ⟨hk.2, hk.1.2⟩))⟩, ⟨Rl_ (Kd.R_mono HO722.out (fun _ hk => ⟨hk.1.2, hk.2⟩))⟩, ⟨Bl_ HB⟩⟩
        case round =>
         as_aux_lemma =>
         clear H'
         try clear c1
         try clear c2
         try clear p2
         try clear c3
         try clear c4
         try clear c5
         try clear c6
         try clear p6
         try clear q6
         try clear hx6
         try clear c7
         try clear c8
         try clear q8
         try clear c9
         try clear c10
         try clear c11
         try clear c12
         try clear c13
         try clear c14
         try clear c15
         try clear c16
         try clear c17
         try clear c18
         try clear c19
         try clear c20
         try clear c21
         try clear c22
         try clear c23
         try clear c24
         try clear c25
         try clear c26
         try clear c30
         try clear c31
         try clear c31b0
         try clear c32
         try clear c32b0
         try clear c32b1
         try clear c33
         try clear c35
         try clear c36
         try clear c43
         try clear c46
         try clear c47
         try clear c48
         try clear c48b0
         try clear c48b1
         try clear c49
         try clear c51
         try clear c52
         try clear p62
         try clear q62
         try clear hx62
         try clear c63
         try clear c64
         try clear p64
         try clear c76
         try clear c76b0
         try clear c77
         try clear c77b0
         try clear c78
         try clear c78b0
         try clear c79
         try clear c79b0
         try clear c80
         try clear c80b0
         try clear c80b1
         try clear q81
         try clear c82
         try clear c82b0
         try clear c83
         try clear c83b0
         try clear c84
         try clear c84b0
         try clear c87
         try clear c88
         try clear c89
         try clear c89b0
         try clear c89b1
         try clear c90
         try clear c98
         try clear c98b0
         try clear c98b1
         try clear c98b2
         try clear c100
         try clear c109
         try clear c115
         try clear c116
         try clear c121
         try clear c124
         try clear c127
         try clear c128
         try clear c129
         try clear c134
         try clear c142
         try clear c142b0
         try clear c142b1
         try clear c142b2
         try clear c144
         try clear c152
         try clear c158
         try clear c159
         try clear c164
         try clear c168
         try clear c169
         try clear c169b0
         try clear c169b1
         try clear c170
         try clear c172
         try clear c173
         try clear c175
         try clear c176
         try clear c177
         try clear c183
         try clear c184
         try clear c185
         try clear c191
         try clear c198
         try clear c198b0
         try clear c198b1
         try clear c198b2
         try clear c200
         try clear c205
         try clear c212
         try clear c213
         try clear c220
         try clear c221
         try clear c222
         try clear c227
         try clear c232
         try clear c233
         try clear c234
         try clear c234b0
         try clear c234b1
         try clear c235
         try clear c236
         try clear c237
         try clear c239
         try clear c240
         try clear hcz104_0
         try clear hcz104_1
         try clear hcz110_0
         try clear hcz110_1
         try clear hcz112_0
         try clear hcz112_1
         try clear hcz117_0
         try clear hcz117_1
         try clear hcz119_0
         try clear hcz119_1
         try clear hcz130_0
         try clear hcz130_1
         try clear hcz135_0
         try clear hcz135_1
         try clear hcz148_0
         try clear hcz148_1
         try clear hcz14_0
         try clear hcz14_1
         try clear hcz153_0
         try clear hcz153_1
         try clear hcz155_0
         try clear hcz155_1
         try clear hcz160_0
         try clear hcz160_1
         try clear hcz162_0
         try clear hcz162_1
         try clear hcz178_0
         try clear hcz178_1
         try clear hcz180_0
         try clear hcz180_1
         try clear hcz186_0
         try clear hcz186_1
         try clear hcz188_0
         try clear hcz188_1
         try clear hcz190_0
         try clear hcz190_1
         try clear hcz192_0
         try clear hcz192_1
         try clear hcz19_0
         try clear hcz19_1
         try clear hcz206_0
         try clear hcz206_1
         try clear hcz208_0
         try clear hcz208_1
         try clear hcz214_0
         try clear hcz214_1
         try clear hcz216_0
         try clear hcz216_1
         try clear hcz217_0
         try clear hcz217_1
         try clear hcz21_0
         try clear hcz21_1
         try clear hcz223_0
         try clear hcz223_1
         try clear hcz225_0
         try clear hcz225_1
         try clear hcz238_0
         try clear hcz238_1
         try clear hcz241_0
         try clear hcz241_1
         try clear hcz26_0
         try clear hcz26_1
         try clear hcz28_0
         try clear hcz28_1
         try clear hcz34_0
         try clear hcz34_1
         try clear hcz37_0
         try clear hcz37_1
         try clear hcz53_0
         try clear hcz53_1
         try clear hcz58_0
         try clear hcz58_1
         try clear hcz60_0
         try clear hcz60_1
         try clear hcz65_0
         try clear hcz65_1
         try clear hcz67_0
         try clear hcz67_1
         try clear hcz71_0
         try clear hcz71_1
         try clear hcz72_0
         try clear hcz72_1
         try clear hcz74_0
         try clear hcz74_1
         try clear hcz91_0
         try clear hcz91_1
         try clear hcz93_0
         try clear hcz93_1
         try clear hfz104_0
         try clear hfz104_1
         try clear hfz110_0
         try clear hfz110_1
         try clear hfz112_0
         try clear hfz112_1
         try clear hfz117_0
         try clear hfz117_1
         try clear hfz119_0
         try clear hfz119_1
         try clear hfz130_0
         try clear hfz130_1
         try clear hfz135_0
         try clear hfz135_1
         try clear hfz148_0
         try clear hfz148_1
         try clear hfz14_0
         try clear hfz14_1
         try clear hfz153_0
         try clear hfz153_1
         try clear hfz155_0
         try clear hfz155_1
         try clear hfz160_0
         try clear hfz160_1
         try clear hfz162_0
         try clear hfz162_1
         try clear hfz178_0
         try clear hfz178_1
         try clear hfz180_0
         try clear hfz180_1
         try clear hfz186_0
         try clear hfz186_1
         try clear hfz188_0
         try clear hfz188_1
         try clear hfz190_0
         try clear hfz190_1
         try clear hfz192_0
         try clear hfz192_1
         try clear hfz19_0
         try clear hfz19_1
         try clear hfz206_0
         try clear hfz206_1
         try clear hfz208_0
         try clear hfz208_1
         try clear hfz214_0
         try clear hfz214_1
         try clear hfz216_0
         try clear hfz216_1
         try clear hfz217_0
         try clear hfz217_1
         try clear hfz21_0
         try clear hfz21_1
         try clear hfz223_0
         try clear hfz223_1
         try clear hfz225_0
         try clear hfz225_1
         try clear hfz238_0
         try clear hfz238_1
         try clear hfz241_0
         try clear hfz241_1
         try clear hfz26_0
         try clear hfz26_1
         try clear hfz28_0
         try clear hfz28_1
         try clear hfz34_0
         try clear hfz34_1
         try clear hfz37_0
         try clear hfz37_1
         try clear hfz53_0
         try clear hfz53_1
         try clear hfz58_0
         try clear hfz58_1
         try clear hfz60_0
         try clear hfz60_1
         try clear hfz65_0
         try clear hfz65_1
         try clear hfz67_0
         try clear hfz67_1
         try clear hfz71_0
         try clear hfz71_1
         try clear hfz72_0
         try clear hfz72_1
         try clear hfz74_0
         try clear hfz74_1
         try clear hfz91_0
         try clear hfz91_1
         try clear hfz93_0
         try clear hfz93_1
         try clear hx620_0
         try clear hx625_0
         try clear p2
         try clear p6
         try clear p62
         try clear p620
         try clear p625
         try clear p64
         try clear q6
         try clear q62
         try clear q620
         try clear q625
         try clear q8
         try clear q81
         obtain ⟨x381_4, rfl, HA, HK4, HO_56, HO_57, HO_379, HB⟩ := hrel
         cases gk with
         | zero => exact absurd HA.out (by simp [laws_FnStartsTaken.l3])
         | succ k4 =>
          have H := HA.out
          clear HA
          simp only [laws_FnStartsTaken.l3] at H
          by_cases c250 : x381_4 < (t720.length : Int)
          rotate_left
          ·rw [if_neg c250] at H
           have c250b0 : decide (x381_4 < (t720.length : Int)) = false := decide_eq_false c250
           clear c250
           have H' := a_ H
           clear H
           go_wp2
           go_meet
           case rel => exact ⟨_, H', ⟨by have := HJ10.out; have := HJ100.out; have := HJ144.out; have := HK4.out; first | omega | exact Nat.le_refl _⟩, ⟨Bl_ HB⟩⟩
          rw [if_pos c250] at H
          have c250b0 : decide (x381_4 < (t720.length : Int)) = true := decide_eq_true c250
          clear c250
          by_cases c251 : 0 ≤ x381_4
          rotate_left
          ·rw [if_neg c251] at H
           cases H
          rw [if_pos c251] at H
          have c251b0 : decide (0 ≤ x381_4) = true := decide_eq_true c251
          clear c251
          by_cases c252 : x381_4 < (t720.length : Int)
          rotate_left
          ·rw [if_neg c252] at H
           cases H
          rw [if_pos c252] at H
          have c252b0 : decide (x381_4 < (t720.length : Int)) = true := decide_eq_true c252
          clear c252
          by_cases c253 : x381_4 < (t723.length : Int)
          rotate_left
          ·rw [if_neg c253] at H
           have c253b0 : decide (x381_4 < (t723.length : Int)) = false := decide_eq_false c253
           clear c253
           by_cases c260 : x381_4 ≥ (t723.length : Int)
           rotate_left
           ·rw [if_neg c260] at H
            have c260b0 : decide ((t723.length : Int) ≤ x381_4) = false := decide_eq_false c260
            clear c260
            have H' := a_ H
            clear H
            have p729 : 0 ≤ (x381_4 : Int) := od_
            have q729 : x381_4 < (t720.length : Int) := od_
            obtain ⟨ad729, e729, hx729_0⟩ := Kd.at_int (Kd.R_reads' HO_379.out).2.2 x381_4 p729 q729
            cases e729
            replace p729 := eq_true p729
            replace q729 := eq_true q729
            go_wp2
            go_roundg k4
            case measure => have := HJ10.out; have := HJ100.out; have := HJ144.out; have := HK4.out; omega
            case rel => exact ⟨(wrap64 (x381_4 + 1)), rs_, H', ⟨by have := HJ10.out; have := HJ100.out; have := HJ144.out; have := HK4.out; omega⟩, ⟨Rl_ HO_56.out⟩, ⟨Rl_ HO_57.out⟩, ⟨Rl_ HO_379.out⟩, ⟨Bl_ HB⟩⟩
           rw [if_pos c260] at H
           have c260b0 : decide ((t723.length : Int) ≤ x381_4) = true := decide_eq_true c260
           clear c260
           obtain ⟨ji261, hji261⟩ : ∃ j_ : Int, (wrap64 (x381_4 - (t723.length : Int))) = j_ := ⟨_, rfl⟩
           replace H : (if 0 ≤ (ji261) then (if (ji261) < (t726.length : Int) then (if (rd t720 x381_4) = (wrap64 ((t723.length : Int) + (rd t726 (ji261)))) then (laws_FnStartsTaken.l3 k4 l1 t723 t726 t720 (t720.length : Int) (wrap64 (x381_4 + 1))) else (none)) else (none)) else (none)) = some r := by first | (rw [hji261] at H; exact H) | (simp only [hji261] at H ⊢; exact H)
           have hji261w : (IntKind.i64.wrap (x381_4 - (t723.length : Int))) = ji261 := (i64_w _).trans hji261
           by_cases c262 : 0 ≤ (ji261)
           rotate_left
           ·rw [if_neg c262] at H
            cases H
           rw [if_pos c262] at H
           have c262b0 : decide (0 ≤ (ji261)) = true := decide_eq_true c262
           clear c262
           by_cases c263 : (ji261) < (t726.length : Int)
           rotate_left
           ·rw [if_neg c263] at H
            cases H
           rw [if_pos c263] at H
           have c263b0 : decide ((ji261) < (t726.length : Int)) = true := decide_eq_true c263
           clear c263
           by_cases c264 : (rd t720 x381_4) = (wrap64 ((t723.length : Int) + (rd t726 (ji261))))
           rotate_left
           ·rw [if_neg c264] at H
            cases H
           rw [if_pos c264] at H
           have c264b0 : ((rd t720 x381_4) == (wrap64 ((t723.length : Int) + (rd t726 (ji261))))) = true := beq_iff_eq.mpr c264
           have c264b1 : ((rd t720 x381_4) != (wrap64 ((t723.length : Int) + (rd t726 (ji261))))) = false := bne_eq_false_iff_eq.mpr c264
           clear c264
           have H' := a_ H
           clear H
           have p729 : 0 ≤ (x381_4 : Int) := od_
           have q729 : x381_4 < (t720.length : Int) := od_
           obtain ⟨ad729, e729, hx729_0⟩ := Kd.at_int (Kd.R_reads' HO_379.out).2.2 x381_4 p729 q729
           cases e729
           replace p729 := eq_true p729
           replace q729 := eq_true q729
           have p732 : 0 ≤ ((ji261) : Int) := od_
           have q732 : (ji261) < (t726.length : Int) := od_
           obtain ⟨ad732, e732, hx732_0⟩ := Kd.at_int (Kd.R_reads' HO_57.out).2.2 (ji261) p732 q732
           cases e732
           replace p732 := eq_true p732
           replace q732 := eq_true q732
           go_wp2
           go_roundg k4
           case measure => have := HJ10.out; have := HJ100.out; have := HJ144.out; have := HK4.out; omega
           case rel => exact ⟨(wrap64 (x381_4 + 1)), rs_, H', ⟨by have := HJ10.out; have := HJ100.out; have := HJ144.out; have := HK4.out; omega⟩, ⟨Rl_ HO_56.out⟩, ⟨Rl_ HO_57.out⟩, ⟨Rl_ HO_379.out⟩, ⟨Bl_ HB⟩⟩
          as_aux_lemma =>
          rw [if_pos c253] at H
          have c253b0 : decide (x381_4 < (t723.length : Int)) = true := decide_eq_true c253
          clear c253
          by_cases c254 : (rd t720 x381_4) = (rd t723 x381_4)
          rotate_left
          ·rw [if_neg c254] at H
           cases H
          rw [if_pos c254] at H
          have c254b0 : ((rd t720 x381_4) == (rd t723 x381_4)) = true := beq_iff_eq.mpr c254
          have c254b1 : ((rd t720 x381_4) != (rd t723 x381_4)) = false := bne_eq_false_iff_eq.mpr c254
          clear c254
          by_cases c255 : x381_4 ≥ (t723.length : Int)
          rotate_left
          ·rw [if_neg c255] at H
           have c255b0 : decide ((t723.length : Int) ≤ x381_4) = false := decide_eq_false c255
           clear c255
           have H' := a_ H
           clear H
           have p729 : 0 ≤ (x381_4 : Int) := od_
           have q729 : x381_4 < (t720.length : Int) := od_
           obtain ⟨ad729, e729, hx729_0⟩ := Kd.at_int (Kd.R_reads' HO_379.out).2.2 x381_4 p729 q729
           cases e729
           replace p729 := eq_true p729
           replace q729 := eq_true q729
           have p730 : 0 ≤ (x381_4 : Int) := od_
           have q730 : x381_4 < (t723.length : Int) := od_
           obtain ⟨ad730, e730, hx730_0⟩ := Kd.at_int (Kd.R_reads' HO_56.out).2.2 x381_4 p730 q730
           cases e730
           replace p730 := eq_true p730
           replace q730 := eq_true q730
           go_wp2
           go_roundg k4
           case measure => have := HJ10.out; have := HJ100.out; have := HJ144.out; have := HK4.out; omega
           case rel => exact ⟨(wrap64 (x381_4 + 1)), rs_, H', ⟨by have := HJ10.out; have := HJ100.out; have := HJ144.out; have := HK4.out; omega⟩, ⟨Rl_ HO_56.out⟩, ⟨Rl_ HO_57.out⟩, ⟨Rl_ HO_379.out⟩, ⟨Bl_ HB⟩⟩
          rw [if_pos c255] at H
          have c255b0 : decide ((t723.length : Int) ≤ x381_4) = true := decide_eq_true c255
          clear c255
          obtain ⟨ji256, hji256⟩ : ∃ j_ : Int, (wrap64 (x381_4 - (t723.length : Int))) = j_ := ⟨_, rfl⟩
          replace H : (if 0 ≤ (ji256) then (if (ji256) < (t726.length : Int) then (if (rd t720 x381_4) = (wrap64 ((t723.length : Int) + (rd t726 (ji256)))) then (laws_FnStartsTaken.l3 k4 l1 t723 t726 t720 (t720.length : Int) (wrap64 (x381_4 + 1))) else (none)) else (none)) else (none)) = some r := by first | (rw [hji256] at H; exact H) | (simp only [hji256] at H ⊢; exact H)
          have hji256w : (IntKind.i64.wrap (x381_4 - (t723.length : Int))) = ji256 := (i64_w _).trans hji256
          by_cases c257 : 0 ≤ (ji256)
          rotate_left
          ·rw [if_neg c257] at H
           cases H
          rw [if_pos c257] at H
          have c257b0 : decide (0 ≤ (ji256)) = true := decide_eq_true c257
          clear c257
          by_cases c258 : (ji256) < (t726.length : Int)
          rotate_left
          ·rw [if_neg c258] at H
           cases H
          rw [if_pos c258] at H
          have c258b0 : decide ((ji256) < (t726.length : Int)) = true := decide_eq_true c258
          clear c258
          by_cases c259 : (rd t720 x381_4) = (wrap64 ((t723.length : Int) + (rd t726 (ji256))))
          rotate_left
          ·rw [if_neg c259] at H
           cases H
          rw [if_pos c259] at H
          have c259b0 : ((rd t720 x381_4) == (wrap64 ((t723.length : Int) + (rd t726 (ji256))))) = true := beq_iff_eq.mpr c259
          have c259b1 : ((rd t720 x381_4) != (wrap64 ((t723.length : Int) + (rd t726 (ji256))))) = false := bne_eq_false_iff_eq.mpr c259
          clear c259
          have H' := a_ H
          clear H
          have p729 : 0 ≤ (x381_4 : Int) := od_
          have q729 : x381_4 < (t720.length : Int) := od_
          obtain ⟨ad729, e729, hx729_0⟩ := Kd.at_int (Kd.R_reads' HO_379.out).2.2 x381_4 p729 q729
          cases e729
          replace p729 := eq_true p729
          replace q729 := eq_true q729
          have p730 : 0 ≤ (x381_4 : Int) := od_
          have q730 : x381_4 < (t723.length : Int) := od_
          obtain ⟨ad730, e730, hx730_0⟩ := Kd.at_int (Kd.R_reads' HO_56.out).2.2 x381_4 p730 q730
          cases e730
          replace p730 := eq_true p730
          replace q730 := eq_true q730
          have p731 : 0 ≤ ((ji256) : Int) := od_
          have q731 : (ji256) < (t726.length : Int) := od_
          obtain ⟨ad731, e731, hx731_0⟩ := Kd.at_int (Kd.R_reads' HO_57.out).2.2 (ji256) p731 q731
          cases e731
          replace p731 := eq_true p731
          replace q731 := eq_true q731
          go_wp2
          go_roundg k4
          case measure => have := HJ10.out; have := HJ100.out; have := HJ144.out; have := HK4.out; omega
          case rel => exact ⟨(wrap64 (x381_4 + 1)), rs_, H', ⟨by have := HJ10.out; have := HJ100.out; have := HJ144.out; have := HK4.out; omega⟩, ⟨Rl_ HO_56.out⟩, ⟨Rl_ HO_57.out⟩, ⟨Rl_ HO_379.out⟩, ⟨Bl_ HB⟩⟩
       case rest =>
        as_aux_lemma =>
        clear HC201
        try clear c1
        try clear c2
        try clear p2
        try clear c3
        try clear c4
        try clear c5
        try clear c6
        try clear p6
        try clear q6
        try clear hx6
        try clear c7
        try clear p7
        try clear q7
        try clear hx7
        try clear c8
        try clear q8
        try clear c9
        try clear c10
        try clear c11
        try clear c12
        try clear c13
        try clear c14
        try clear c15
        try clear c16
        try clear c17
        try clear c18
        try clear c19
        try clear c20
        try clear c21
        try clear c22
        try clear c23
        try clear c24
        try clear c25
        try clear c26
        try clear c30
        try clear c31
        try clear c31b0
        try clear c32
        try clear c32b0
        try clear c32b1
        try clear c33
        try clear c35
        try clear c36
        try clear c43
        try clear c46
        try clear c47
        try clear c48
        try clear c48b0
        try clear c48b1
        try clear c49
        try clear c51
        try clear c52
        try clear p62
        try clear q62
        try clear hx62
        try clear c63
        try clear c64
        try clear p64
        try clear p72
        try clear q72
        try clear hx72
        try clear p73
        try clear q73
        try clear hx73
        try clear c76
        try clear c76b0
        try clear c77
        try clear c77b0
        try clear c78
        try clear c78b0
        try clear c79
        try clear c79b0
        try clear c80
        try clear c80b0
        try clear c80b1
        try clear q81
        try clear c82
        try clear c82b0
        try clear c83
        try clear c83b0
        try clear c84
        try clear c84b0
        try clear c87
        try clear c88
        try clear c89
        try clear c89b0
        try clear c89b1
        try clear c90
        try clear c98
        try clear c98b0
        try clear c98b1
        try clear c98b2
        try clear c100
        try clear c109
        try clear c115
        try clear c116
        try clear c121
        try clear c124
        try clear c127
        try clear c128
        try clear c129
        try clear c134
        try clear c142
        try clear c142b0
        try clear c142b1
        try clear c142b2
        try clear c144
        try clear c152
        try clear c158
        try clear c159
        try clear c164
        try clear c168
        try clear c169
        try clear c169b0
        try clear c169b1
        try clear c170
        try clear c172
        try clear c173
        try clear c175
        try clear c176
        try clear c177
        try clear c183
        try clear c184
        try clear c185
        try clear c191
        try clear c198
        try clear c198b0
        try clear c198b1
        try clear c198b2
        try clear c200
        try clear c205
        try clear c212
        try clear c213
        try clear c220
        try clear c221
        try clear c222
        try clear c227
        try clear c232
        try clear c233
        try clear c234
        try clear c234b0
        try clear c234b1
        try clear c235
        try clear c236
        try clear c237
        try clear c239
        try clear c240
        try clear c250
        try clear c250b0
        try clear c251
        try clear c251b0
        try clear c252
        try clear c252b0
        try clear c253
        try clear c253b0
        try clear c254
        try clear c254b0
        try clear c254b1
        try clear c255
        try clear c255b0
        try clear c257
        try clear c257b0
        try clear c258
        try clear c258b0
        try clear c259
        try clear c259b0
        try clear c259b1
        try clear c260
        try clear c260b0
        try clear c262
        try clear c262b0
        try clear c263
        try clear c263b0
        try clear c264
        try clear c264b0
        try clear c264b1
        try clear hcz104_0
        try clear hcz104_1
        try clear hcz110_0
        try clear hcz110_1
        try clear hcz112_0
        try clear hcz112_1
        try clear hcz117_0
        try clear hcz117_1
        try clear hcz119_0
        try clear hcz119_1
        try clear hcz130_0
        try clear hcz130_1
        try clear hcz135_0
        try clear hcz135_1
        try clear hcz148_0
        try clear hcz148_1
        try clear hcz14_0
        try clear hcz14_1
        try clear hcz153_0
        try clear hcz153_1
        try clear hcz155_0
        try clear hcz155_1
        try clear hcz160_0
        try clear hcz160_1
        try clear hcz162_0
        try clear hcz162_1
        try clear hcz178_0
        try clear hcz178_1
        try clear hcz180_0
        try clear hcz180_1
        try clear hcz186_0
        try clear hcz186_1
        try clear hcz188_0
        try clear hcz188_1
        try clear hcz190_0
        try clear hcz190_1
        try clear hcz192_0
        try clear hcz192_1
        try clear hcz19_0
        try clear hcz19_1
        try clear hcz206_0
        try clear hcz206_1
        try clear hcz208_0
        try clear hcz208_1
        try clear hcz214_0
        try clear hcz214_1
        try clear hcz216_0
        try clear hcz216_1
        try clear hcz217_0
        try clear hcz217_1
        try clear hcz21_0
        try clear hcz21_1
        try clear hcz223_0
        try clear hcz223_1
        try clear hcz225_0
        try clear hcz225_1
        try clear hcz238_0
        try clear hcz238_1
        try clear hcz241_0
        try clear hcz241_1
        try clear hcz26_0
        try clear hcz26_1
        try clear hcz28_0
        try clear hcz28_1
        try clear hcz34_0
        try clear hcz34_1
        try clear hcz37_0
        try clear hcz37_1
        try clear hcz53_0
        try clear hcz53_1
        try clear hcz58_0
        try clear hcz58_1
        try clear hcz60_0
        try clear hcz60_1
        try clear hcz65_0
        try clear hcz65_1
        try clear hcz67_0
        try clear hcz67_1
        try clear hcz71_0
        try clear hcz71_1
        try clear hcz72_0
        try clear hcz72_1
        try clear hcz74_0
        try clear hcz74_1
        try clear hcz91_0
        try clear hcz91_1
        try clear hcz93_0
        try clear hcz93_1
        try clear hfz104_0
        try clear hfz104_1
        try clear hfz110_0
        try clear hfz110_1
        try clear hfz112_0
        try clear hfz112_1
        try clear hfz117_0
        try clear hfz117_1
        try clear hfz119_0
        try clear hfz119_1
        try clear hfz130_0
        try clear hfz130_1
        try clear hfz135_0
        try clear hfz135_1
        try clear hfz148_0
        try clear hfz148_1
        try clear hfz14_0
        try clear hfz14_1
        try clear hfz153_0
        try clear hfz153_1
        try clear hfz155_0
        try clear hfz155_1
        try clear hfz160_0
        try clear hfz160_1
        try clear hfz162_0
        try clear hfz162_1
        try clear hfz178_0
        try clear hfz178_1
        try clear hfz180_0
        try clear hfz180_1
        try clear hfz186_0
        try clear hfz186_1
        try clear hfz188_0
        try clear hfz188_1
        try clear hfz190_0
        try clear hfz190_1
        try clear hfz192_0
        try clear hfz192_1
        try clear hfz19_0
        try clear hfz19_1
        try clear hfz206_0
        try clear hfz206_1
        try clear hfz208_0
        try clear hfz208_1
        try clear hfz214_0
        try clear hfz214_1
        try clear hfz216_0
        try clear hfz216_1
        try clear hfz217_0
        try clear hfz217_1
        try clear hfz21_0
        try clear hfz21_1
        try clear hfz223_0
        try clear hfz223_1
        try clear hfz225_0
        try clear hfz225_1
        try clear hfz238_0
        try clear hfz238_1
        try clear hfz241_0
        try clear hfz241_1
        try clear hfz26_0
        try clear hfz26_1
        try clear hfz28_0
        try clear hfz28_1
        try clear hfz34_0
        try clear hfz34_1
        try clear hfz37_0
        try clear hfz37_1
        try clear hfz53_0
        try clear hfz53_1
        try clear hfz58_0
        try clear hfz58_1
        try clear hfz60_0
        try clear hfz60_1
        try clear hfz65_0
        try clear hfz65_1
        try clear hfz67_0
        try clear hfz67_1
        try clear hfz71_0
        try clear hfz71_1
        try clear hfz72_0
        try clear hfz72_1
        try clear hfz74_0
        try clear hfz74_1
        try clear hfz91_0
        try clear hfz91_1
        try clear hfz93_0
        try clear hfz93_1
        try clear hx620_0
        try clear hx625_0
        try clear hx729_0
        try clear hx730_0
        try clear hx731_0
        try clear hx732_0
        try clear p2
        try clear p6
        try clear p62
        try clear p620
        try clear p625
        try clear p64
        try clear p729
        try clear p730
        try clear p731
        try clear p732
        try clear q6
        try clear q62
        try clear q620
        try clear q625
        try clear q729
        try clear q730
        try clear q731
        try clear q732
        try clear q8
        try clear q81
        obtain ⟨kq, HA, HJ200, HB⟩ := hcut
        cases kq with
        | zero => exact absurd HA.out (by simp [laws_FnStartsTaken.j7])
        | succ kj200 =>
         have H := HA.out
         clear HA
         simp only [laws_FnStartsTaken.j7] at H
         obtain ⟨⟨t733, t734⟩, A265, H⟩ := ob_ H
         (try dsimp only at H)
         obtain ⟨⟨t738, t739, t742⟩, A266, H⟩ := ob_ H
         (try dsimp only at H)
         obtain ⟨⟨t744, t745, t748⟩, A267, H⟩ := ob_ H
         (try dsimp only at H)
         by_cases c268 : (t742 != t748) = true
         ·rw [if_pos c268] at H
          cases H
         rw [if_neg c268] at H
         have c268b0 : (t742 != t748) = false := by simpa using c268
         (try (have c268b1 : decide (t742 = t748) = true := by simpa using c268))
         (try (have c268b2 : (t742 == t748) = true := by simpa using c268))
         clear c268
         obtain ⟨t750, A269, H⟩ := ob_ H
         (try dsimp only at H)
         by_cases c270 : t750 = true
         rotate_left
         ·replace c270 := Bool.eq_false_iff.mpr c270
          subst c270
          rw [if_neg (show ¬ (false = true) by decide)] at H
          cases H
         subst c270
         rw [if_pos rfl] at H
         by_cases c271 : t742 = true
         rotate_left
         ·replace c271 := Bool.eq_false_iff.mpr c271
          subst c271
          rw [if_neg (show ¬ (false = true) by decide)] at H
          obtain rfl := Option.some.inj H
          go_wp2_with (first | ((with_reducible refine gate_callee (f := 27) rfl ?_); refine gm_ (some 420) Try.func27 #[.slice A1 l1.length c1] rfl ?_; (with_reducible refine (spec_DrawDoubleLadder.calls kj200 _ _ l1 t733 t734 _ ?side1 ?side2 A265.out).mono ?_); (case side1 => exact Cl_ (Kd.C_below HR1.out HB.out)); (case side2 => exact HC1.out); rintro e w311 ⟨v735, rfl, ho0, hb⟩; refine ⟨_, rfl, ?_⟩; have HO736 := a_ (Kd.R_lower ho0 (below_size (Bl_ HB))); replace HB := Bs_ HB hb; (try clear hb); (try clear hb2); (try clear hk); (try clear hi); (try clear ho0)) | ((with_reducible refine gate_dst (N := 60) rfl ?_); (try (refine gate_guard (by rfl) ?_; dsimp only)); refine bx_ #[.int .i64 0, .slice none 0 0] 26 ?_ 60; intro gb737 hg w312 hbox hb; replace HO736 := a_ (Kd.R_below (Rl_ HO736.out) hb); have BK737 := a_ (hbox); have GW737 := gw_ HB hg; have GE737 := gw_ HB hg; replace HB := Bs_ HB hb; clear hb hbox hg; have hcz313_0 := cz_ (.int .i64 0) BK737 0; have hcz313_1 := cz_ (.slice none 0 0) BK737 1; have hfz313_0 := fz_ BK737 0; have hfz313_1 := fz_ BK737 1; obtain ⟨Ao314, co314, eo314⟩ := Kd.R_slice HO736.out; subst eo314) | ((with_reducible refine gate_callee (f := 28) rfl ?_); refine gm_ (some 423) Try.func28 #[.agg #[.int .i64 t733, .slice Ao314 t734.length co314]] rfl ?_; (with_reducible refine (impl_DoubleLadder.calls kj200 t733 _ _ t734 t738 t739 false _ ?side1 ?side2 A266.out).mono ?_); (case side1 => refine (Kd.R_reads' (e := 3) (base := w.heap.size) (ok := fun k_ => True) (n := t734.length) (c := co314) ?_).2.2; exact (Rl_ (Rf2_ HO736.out BK737.out (by decide) (.int .i64 t733) (.slice Ao314 t734.length co314)))); (case side2 => exact (Kd.R_reads' HO736.out).2.1); rintro e w315 ⟨v740, rfl, ho0, hb⟩; refine ⟨_, rfl, ?_⟩; have HO741 := a_ (Kd.R_lower (Kd.R_new' ho0 (Kd.R_lt (Rl_ (Rf2_ HO736.out BK737.out (by decide) (.int .i64 t733) (.slice Ao314 t734.length co314))))) (below_size (Bl_ HB))); replace HO736 := a_ (Kd.R_elder' (Rl_ (Rf2_ HO736.out BK737.out (by decide) (.int .i64 t733) (.slice Ao314 t734.length co314))) (Kd.R_base ho0) hb); replace BK737 := a_ (blk_below (g := gb737) (o := .cells #[.int .i64 t733, .slice Ao314 t734.length co314] 26 (0, 0)) (by (with_reducible repeat (first | refine blk_drewN ?_ _ | refine blk_drew ?_ | refine blk_alloc ?_ _)); refine blk_put (cs := #[.int .i64 t733, .slice none 0 0]) ?_ 1 _ rfl; (with_reducible repeat (first | refine blk_drewN ?_ _ | refine blk_drew ?_ | refine blk_alloc ?_ _)); refine blk_put (cs := #[.int .i64 0, .slice none 0 0]) ?_ 0 _ rfl; (with_reducible repeat (first | refine blk_drewN ?_ _ | refine blk_drew ?_ | refine blk_alloc ?_ _)); exact BK737.out) hb); replace HB := Bs_ HB hb; (try clear hb); (try clear hb2); (try clear hk); (try clear hi); (try clear ho0)) | ((with_reducible refine gate_dst (N := 61) rfl ?_); (try (refine gate_guard (by rfl) ?_; dsimp only)); refine bx_ #[.int .i64 0, .slice none 0 0] 26 ?_ 61; intro gb743 hg w316 hbox hb; replace HO736 := a_ (Kd.R_below (Rl_ HO736.out) hb); replace HO741 := a_ (Kd.R_below (Rl_ HO741.out) hb); have BK743 := a_ (hbox); have GW743 := gw_ HB hg; have GE743 := gw_ HB hg; replace HB := Bs_ HB hb; have NB737_743 := nbl_ BK737 hg; have NB743_737 := nbg_ BK737 hg; replace BK737 := blkB_ BK737 hb; clear hb hbox hg; have hnb317 := NB743_737.out; have hnc317 := NB737_743.out; have hcz318_0 := cz_ (.int .i64 0) BK743 0; have hcz318_1 := cz_ (.slice none 0 0) BK743 1; have hfz318_0 := fz_ BK743 0; have hfz318_1 := fz_ BK743 1; obtain ⟨Ao319, co319, eo319⟩ := Kd.R_slice HO741.out; subst eo319; have hcz320_0 := cz_ (.int .i64 t733) BK737 0; have hcz320_1 := cz_ (.slice Ao314 t734.length co314) BK737 1; have hfz320_0 := fz_ BK737 0; have hfz320_1 := fz_ BK737 1) | ((with_reducible refine gate_callee (f := 29) rfl ?_); refine gm_ (some 428) Try.func29 #[.agg #[.int .i64 t733, .slice Ao314 t734.length co314]] rfl ?_; (with_reducible refine (spec_DoubleLadder.calls kj200 t733 _ _ t734 t744 t745 t748 _ ?side1 ?side2 A267.out).mono ?_); (case side1 => refine (Kd.R_reads' (e := 3) (base := w.heap.size) (ok := fun k_ => (True ∧ some k_ ≠ (.slice Ao319 t739.length co319 : Value).ownBlock)) (n := t734.length) (c := co314) ?_).2.2; exact (Rl_ (Rf2_ HO736.out BK743.out (by decide) (.int .i64 t738) (.slice Ao319 t739.length co319)))); (case side2 => exact (Kd.R_reads' HO736.out).2.1); rintro e w321 ⟨v746, rfl, ho0, hb⟩; refine ⟨_, rfl, ?_⟩; have HO747 := a_ (Kd.R_lower (Kd.R_new' (Kd.R_new' ho0 (Kd.R_lt (Rl_ (Rf2_ HO736.out BK743.out (by decide) (.int .i64 t738) (.slice Ao319 t739.length co319))))) (Kd.R_lt (Rl_ (Rf2_ HO741.out BK743.out (by decide) (.int .i64 t738) (.slice Ao319 t739.length co319))))) (below_size (Bl_ HB))); replace HO736 := a_ (Kd.R_elder' (Rl_ (Rf2_ HO736.out BK743.out (by decide) (.int .i64 t738) (.slice Ao319 t739.length co319))) (Kd.R_base ho0) hb); replace HO741 := a_ (Kd.R_elder' (Rl_ (Rf2_ HO741.out BK743.out (by decide) (.int .i64 t738) (.slice Ao319 t739.length co319))) (Kd.R_base ho0) hb); replace BK737 := blkF_ BK737 NB737_743 hb; replace BK743 := a_ (blk_below (g := gb743) (o := .cells #[.int .i64 t738, .slice Ao319 t739.length co319] 26 (0, 0)) (by (with_reducible repeat (first | refine blk_drewN ?_ _ | refine blk_drew ?_ | refine blk_alloc ?_ _)); refine blk_put (cs := #[.int .i64 t738, .slice none 0 0]) ?_ 1 _ rfl; (with_reducible repeat (first | refine blk_drewN ?_ _ | refine blk_drew ?_ | refine blk_alloc ?_ _)); refine blk_put (cs := #[.int .i64 0, .slice none 0 0]) ?_ 0 _ rfl; (with_reducible repeat (first | refine blk_drewN ?_ _ | refine blk_drew ?_ | refine blk_alloc ?_ _)); exact BK743.out) hb); replace HB := Bs_ HB hb; (try clear hb); (try clear hb2); (try clear hk); (try clear hi); (try clear ho0)) | ((with_reducible refine gate_dst (N := 63) rfl ?_); (try (refine gate_guard (by rfl) ?_; dsimp only)); refine bx_ #[.int .i64 0, .slice none 0 0] 26 ?_ 63; intro gb749 hg w322 hbox hb; replace HO736 := a_ (Kd.R_below (Rl_ HO736.out) hb); replace HO741 := a_ (Kd.R_below (Rl_ HO741.out) hb); replace HO747 := a_ (Kd.R_below (Rl_ HO747.out) hb); have BK749 := a_ (hbox); have GW749 := gw_ HB hg; have GE749 := gw_ HB hg; replace HB := Bs_ HB hb; have NB737_749 := nbl_ BK737 hg; have NB749_737 := nbg_ BK737 hg; replace BK737 := blkB_ BK737 hb; have NB743_749 := nbl_ BK743 hg; have NB749_743 := nbg_ BK743 hg; replace BK743 := blkB_ BK743 hb; clear hb hbox hg; have hnb323 := NB749_737.out; have hnc323 := NB737_749.out; have hnb324 := NB749_743.out; have hnc324 := NB743_749.out; have hcz325_0 := cz_ (.int .i64 0) BK749 0; have hcz325_1 := cz_ (.slice none 0 0) BK749 1; have hfz325_0 := fz_ BK749 0; have hfz325_1 := fz_ BK749 1; obtain ⟨Ao326, co326, eo326⟩ := Kd.R_slice HO747.out; subst eo326; have hcz327_0 := cz_ (.int .i64 t738) BK743 0; have hcz327_1 := cz_ (.slice Ao319 t739.length co319) BK743 1; have hfz327_0 := fz_ BK743 0; have hfz327_1 := fz_ BK743 1) | (go_at_call 8; (with_reducible refine (laws_kLadder.calls kj200 t738 _ _ t739 t744 _ _ t745 true _ ?side1 ?side2 ?side3 ?side4 A269.out).mono ?_); (case side1 => refine (Kd.R_reads' (e := 3) (base := w.heap.size) (ok := fun k_ => ((True ∧ some k_ ≠ (.slice Ao314 t734.length co314 : Value).ownBlock) ∧ some k_ ≠ (.slice Ao326 t745.length co326 : Value).ownBlock)) (n := t739.length) (c := co319) ?_).2.2; exact (Rl_ (Rf2_ HO741.out BK749.out (by decide) (.int .i64 t744) (.slice Ao326 t745.length co326)))); (case side2 => exact (Kd.R_reads' HO741.out).2.1); (case side3 => refine (Kd.R_reads' (e := 3) (base := w.heap.size) (ok := fun k_ => ((True ∧ some k_ ≠ (.slice Ao314 t734.length co314 : Value).ownBlock) ∧ some k_ ≠ (.slice Ao319 t739.length co319 : Value).ownBlock)) (n := t745.length) (c := co326) ?_).2.2; exact (Rl_ (Rf2_ HO747.out BK749.out (by decide) (.int .i64 t744) (.slice Ao326 t745.length co326)))); (case side4 => exact (Kd.R_reads' HO747.out).2.1); rintro e w328 ⟨rfl, hb⟩; replace HO736 := a_ (Kd.R_below (Rl_ (Rf2_ HO736.out BK749.out (by decide) (.int .i64 t744) (.slice Ao326 t745.length co326))) hb); replace HO741 := a_ (Kd.R_below (Rl_ (Rf2_ HO741.out BK749.out (by decide) (.int .i64 t744) (.slice Ao326 t745.length co326))) hb); replace HO747 := a_ (Kd.R_below (Rl_ (Rf2_ HO747.out BK749.out (by decide) (.int .i64 t744) (.slice Ao326 t745.length co326))) hb); replace BK737 := blkF_ BK737 NB737_749 hb; replace BK743 := blkF_ BK743 NB743_749 hb; replace BK749 := a_ (blk_below (g := gb749) (o := .cells #[.int .i64 t744, .slice Ao326 t745.length co326] 26 (0, 0)) (by (with_reducible repeat (first | refine blk_drewN ?_ _ | refine blk_drew ?_ | refine blk_alloc ?_ _)); refine blk_put (cs := #[.int .i64 t744, .slice none 0 0]) ?_ 1 _ rfl; (with_reducible repeat (first | refine blk_drewN ?_ _ | refine blk_drew ?_ | refine blk_alloc ?_ _)); refine blk_put (cs := #[.int .i64 0, .slice none 0 0]) ?_ 0 _ rfl; (with_reducible repeat (first | refine blk_drewN ?_ _ | refine blk_drew ?_ | refine blk_alloc ?_ _)); exact BK749.out) hb); replace HB := Bs_ HB hb; (try clear hb); (try clear hb2); (try clear hk); (try clear hi)))
          go_ret
          exact ⟨re_, Bl_ HB⟩
         as_aux_lemma =>
         subst c271
         rw [if_pos rfl] at H
         obtain ⟨t751, A272, H⟩ := ob_ H
         (try dsimp only at H)
         obtain ⟨t754, A273, H⟩ := ob_ H
         (try dsimp only at H)
         have H' := a_ H
         clear H
         try go_wp2_with (first | ((with_reducible refine gate_callee (f := 27) rfl ?_); refine gm_ (some 420) Try.func27 #[.slice A1 l1.length c1] rfl ?_; (with_reducible refine (spec_DrawDoubleLadder.calls kj200 _ _ l1 t733 t734 _ ?side1 ?side2 A265.out).mono ?_); (case side1 => exact Cl_ (Kd.C_below HR1.out HB.out)); (case side2 => exact HC1.out); rintro e w274 ⟨v735, rfl, ho0, hb⟩; refine ⟨_, rfl, ?_⟩; have HO736 := a_ (Kd.R_lower ho0 (below_size (Bl_ HB))); replace HB := Bs_ HB hb; (try clear hb); (try clear hb2); (try clear hk); (try clear hi); (try clear ho0)) | ((with_reducible refine gate_dst (N := 60) rfl ?_); (try (refine gate_guard (by rfl) ?_; dsimp only)); refine bx_ #[.int .i64 0, .slice none 0 0] 26 ?_ 60; intro gb737 hg w275 hbox hb; replace HO736 := a_ (Kd.R_below (Rl_ HO736.out) hb); have BK737 := a_ (hbox); have GW737 := gw_ HB hg; have GE737 := gw_ HB hg; replace HB := Bs_ HB hb; clear hb hbox hg; have hcz276_0 := cz_ (.int .i64 0) BK737 0; have hcz276_1 := cz_ (.slice none 0 0) BK737 1; have hfz276_0 := fz_ BK737 0; have hfz276_1 := fz_ BK737 1; obtain ⟨Ao277, co277, eo277⟩ := Kd.R_slice HO736.out; subst eo277) | ((with_reducible refine gate_callee (f := 28) rfl ?_); refine gm_ (some 423) Try.func28 #[.agg #[.int .i64 t733, .slice Ao277 t734.length co277]] rfl ?_; (with_reducible refine (impl_DoubleLadder.calls kj200 t733 _ _ t734 t738 t739 true _ ?side1 ?side2 A266.out).mono ?_); (case side1 => refine (Kd.R_reads' (e := 3) (base := w.heap.size) (ok := fun k_ => True) (n := t734.length) (c := co277) ?_).2.2; exact (Rl_ (Rf2_ HO736.out BK737.out (by decide) (.int .i64 t733) (.slice Ao277 t734.length co277)))); (case side2 => exact (Kd.R_reads' HO736.out).2.1); rintro e w278 ⟨v740, rfl, ho0, hb⟩; refine ⟨_, rfl, ?_⟩; have HO741 := a_ (Kd.R_lower (Kd.R_new' ho0 (Kd.R_lt (Rl_ (Rf2_ HO736.out BK737.out (by decide) (.int .i64 t733) (.slice Ao277 t734.length co277))))) (below_size (Bl_ HB))); replace HO736 := a_ (Kd.R_elder' (Rl_ (Rf2_ HO736.out BK737.out (by decide) (.int .i64 t733) (.slice Ao277 t734.length co277))) (Kd.R_base ho0) hb); replace BK737 := a_ (blk_below (g := gb737) (o := .cells #[.int .i64 t733, .slice Ao277 t734.length co277] 26 (0, 0)) (by (with_reducible repeat (first | refine blk_drewN ?_ _ | refine blk_drew ?_ | refine blk_alloc ?_ _)); refine blk_put (cs := #[.int .i64 t733, .slice none 0 0]) ?_ 1 _ rfl; (with_reducible repeat (first | refine blk_drewN ?_ _ | refine blk_drew ?_ | refine blk_alloc ?_ _)); refine blk_put (cs := #[.int .i64 0, .slice none 0 0]) ?_ 0 _ rfl; (with_reducible repeat (first | refine blk_drewN ?_ _ | refine blk_drew ?_ | refine blk_alloc ?_ _)); exact BK737.out) hb); replace HB := Bs_ HB hb; (try clear hb); (try clear hb2); (try clear hk); (try clear hi); (try clear ho0)) | ((with_reducible refine gate_dst (N := 61) rfl ?_); (try (refine gate_guard (by rfl) ?_; dsimp only)); refine bx_ #[.int .i64 0, .slice none 0 0] 26 ?_ 61; intro gb743 hg w279 hbox hb; replace HO736 := a_ (Kd.R_below (Rl_ HO736.out) hb); replace HO741 := a_ (Kd.R_below (Rl_ HO741.out) hb); have BK743 := a_ (hbox); have GW743 := gw_ HB hg; have GE743 := gw_ HB hg; replace HB := Bs_ HB hb; have NB737_743 := nbl_ BK737 hg; have NB743_737 := nbg_ BK737 hg; replace BK737 := blkB_ BK737 hb; clear hb hbox hg; have hnb280 := NB743_737.out; have hnc280 := NB737_743.out; have hcz281_0 := cz_ (.int .i64 0) BK743 0; have hcz281_1 := cz_ (.slice none 0 0) BK743 1; have hfz281_0 := fz_ BK743 0; have hfz281_1 := fz_ BK743 1; obtain ⟨Ao282, co282, eo282⟩ := Kd.R_slice HO741.out; subst eo282; have hcz283_0 := cz_ (.int .i64 t733) BK737 0; have hcz283_1 := cz_ (.slice Ao277 t734.length co277) BK737 1; have hfz283_0 := fz_ BK737 0; have hfz283_1 := fz_ BK737 1) | ((with_reducible refine gate_callee (f := 29) rfl ?_); refine gm_ (some 428) Try.func29 #[.agg #[.int .i64 t733, .slice Ao277 t734.length co277]] rfl ?_; (with_reducible refine (spec_DoubleLadder.calls kj200 t733 _ _ t734 t744 t745 t748 _ ?side1 ?side2 A267.out).mono ?_); (case side1 => refine (Kd.R_reads' (e := 3) (base := w.heap.size) (ok := fun k_ => (True ∧ some k_ ≠ (.slice Ao282 t739.length co282 : Value).ownBlock)) (n := t734.length) (c := co277) ?_).2.2; exact (Rl_ (Rf2_ HO736.out BK743.out (by decide) (.int .i64 t738) (.slice Ao282 t739.length co282)))); (case side2 => exact (Kd.R_reads' HO736.out).2.1); rintro e w284 ⟨v746, rfl, ho0, hb⟩; refine ⟨_, rfl, ?_⟩; have HO747 := a_ (Kd.R_lower (Kd.R_new' (Kd.R_new' ho0 (Kd.R_lt (Rl_ (Rf2_ HO736.out BK743.out (by decide) (.int .i64 t738) (.slice Ao282 t739.length co282))))) (Kd.R_lt (Rl_ (Rf2_ HO741.out BK743.out (by decide) (.int .i64 t738) (.slice Ao282 t739.length co282))))) (below_size (Bl_ HB))); replace HO736 := a_ (Kd.R_elder' (Rl_ (Rf2_ HO736.out BK743.out (by decide) (.int .i64 t738) (.slice Ao282 t739.length co282))) (Kd.R_base ho0) hb); replace HO741 := a_ (Kd.R_elder' (Rl_ (Rf2_ HO741.out BK743.out (by decide) (.int .i64 t738) (.slice Ao282 t739.length co282))) (Kd.R_base ho0) hb); replace BK737 := blkF_ BK737 NB737_743 hb; replace BK743 := a_ (blk_below (g := gb743) (o := .cells #[.int .i64 t738, .slice Ao282 t739.length co282] 26 (0, 0)) (by (with_reducible repeat (first | refine blk_drewN ?_ _ | refine blk_drew ?_ | refine blk_alloc ?_ _)); refine blk_put (cs := #[.int .i64 t738, .slice none 0 0]) ?_ 1 _ rfl; (with_reducible repeat (first | refine blk_drewN ?_ _ | refine blk_drew ?_ | refine blk_alloc ?_ _)); refine blk_put (cs := #[.int .i64 0, .slice none 0 0]) ?_ 0 _ rfl; (with_reducible repeat (first | refine blk_drewN ?_ _ | refine blk_drew ?_ | refine blk_alloc ?_ _)); exact BK743.out) hb); replace HB := Bs_ HB hb; (try clear hb); (try clear hb2); (try clear hk); (try clear hi); (try clear ho0)) | ((with_reducible refine gate_dst (N := 63) rfl ?_); (try (refine gate_guard (by rfl) ?_; dsimp only)); refine bx_ #[.int .i64 0, .slice none 0 0] 26 ?_ 63; intro gb749 hg w285 hbox hb; replace HO736 := a_ (Kd.R_below (Rl_ HO736.out) hb); replace HO741 := a_ (Kd.R_below (Rl_ HO741.out) hb); replace HO747 := a_ (Kd.R_below (Rl_ HO747.out) hb); have BK749 := a_ (hbox); have GW749 := gw_ HB hg; have GE749 := gw_ HB hg; replace HB := Bs_ HB hb; have NB737_749 := nbl_ BK737 hg; have NB749_737 := nbg_ BK737 hg; replace BK737 := blkB_ BK737 hb; have NB743_749 := nbl_ BK743 hg; have NB749_743 := nbg_ BK743 hg; replace BK743 := blkB_ BK743 hb; clear hb hbox hg; have hnb286 := NB749_737.out; have hnc286 := NB737_749.out; have hnb287 := NB749_743.out; have hnc287 := NB743_749.out; have hcz288_0 := cz_ (.int .i64 0) BK749 0; have hcz288_1 := cz_ (.slice none 0 0) BK749 1; have hfz288_0 := fz_ BK749 0; have hfz288_1 := fz_ BK749 1; obtain ⟨Ao289, co289, eo289⟩ := Kd.R_slice HO747.out; subst eo289; have hcz290_0 := cz_ (.int .i64 t738) BK743 0; have hcz290_1 := cz_ (.slice Ao282 t739.length co282) BK743 1; have hfz290_0 := fz_ BK743 0; have hfz290_1 := fz_ BK743 1) | (go_at_call 8; (with_reducible refine (laws_kLadder.calls kj200 t738 _ _ t739 t744 _ _ t745 true _ ?side1 ?side2 ?side3 ?side4 A269.out).mono ?_); (case side1 => refine (Kd.R_reads' (e := 3) (base := w.heap.size) (ok := fun k_ => ((True ∧ some k_ ≠ (.slice Ao277 t734.length co277 : Value).ownBlock) ∧ some k_ ≠ (.slice Ao289 t745.length co289 : Value).ownBlock)) (n := t739.length) (c := co282) ?_).2.2; exact (Rl_ (Rf2_ HO741.out BK749.out (by decide) (.int .i64 t744) (.slice Ao289 t745.length co289)))); (case side2 => exact (Kd.R_reads' HO741.out).2.1); (case side3 => refine (Kd.R_reads' (e := 3) (base := w.heap.size) (ok := fun k_ => ((True ∧ some k_ ≠ (.slice Ao277 t734.length co277 : Value).ownBlock) ∧ some k_ ≠ (.slice Ao282 t739.length co282 : Value).ownBlock)) (n := t745.length) (c := co289) ?_).2.2; exact (Rl_ (Rf2_ HO747.out BK749.out (by decide) (.int .i64 t744) (.slice Ao289 t745.length co289)))); (case side4 => exact (Kd.R_reads' HO747.out).2.1); rintro e w291 ⟨rfl, hb⟩; replace HO736 := a_ (Kd.R_below (Rl_ (Rf2_ HO736.out BK749.out (by decide) (.int .i64 t744) (.slice Ao289 t745.length co289))) hb); replace HO741 := a_ (Kd.R_below (Rl_ (Rf2_ HO741.out BK749.out (by decide) (.int .i64 t744) (.slice Ao289 t745.length co289))) hb); replace HO747 := a_ (Kd.R_below (Rl_ (Rf2_ HO747.out BK749.out (by decide) (.int .i64 t744) (.slice Ao289 t745.length co289))) hb); replace BK737 := blkF_ BK737 NB737_749 hb; replace BK743 := blkF_ BK743 NB743_749 hb; replace BK749 := a_ (blk_below (g := gb749) (o := .cells #[.int .i64 t744, .slice Ao289 t745.length co289] 26 (0, 0)) (by (with_reducible repeat (first | refine blk_drewN ?_ _ | refine blk_drew ?_ | refine blk_alloc ?_ _)); refine blk_put (cs := #[.int .i64 t744, .slice none 0 0]) ?_ 1 _ rfl; (with_reducible repeat (first | refine blk_drewN ?_ _ | refine blk_drew ?_ | refine blk_alloc ?_ _)); refine blk_put (cs := #[.int .i64 0, .slice none 0 0]) ?_ 0 _ rfl; (with_reducible repeat (first | refine blk_drewN ?_ _ | refine blk_drew ?_ | refine blk_alloc ?_ _)); exact BK749.out) hb); replace HB := Bs_ HB hb; (try clear hb); (try clear hb2); (try clear hk); (try clear hi)))
         as_aux_lemma =>
         replace HO736 := a_ (Kd.R_drew HO736.out)
         replace HO741 := a_ (Kd.R_drew HO741.out)
         replace HO747 := a_ (Kd.R_drew HO747.out)
         replace BK737 := a_ (blk_drew BK737.out)
         replace BK743 := a_ (blk_drew BK743.out)
         replace BK749 := a_ (blk_drew BK749.out)
         replace HB := a_ (below_drew1 HB.out)
         refine start_ (n := 6) (S := fun w' => w'.cell? ⟨gb737, 0, none⟩ = some (.int .i64 t733) ∧ w'.cell? ⟨gb737, 1, none⟩ = some (.slice Ao277 t734.length co277) ∧ w'.cell? ⟨gb743, 0, none⟩ = some (.int .i64 t738) ∧ w'.cell? ⟨gb743, 1, none⟩ = some (.slice Ao282 t739.length co282)) (ds := []) #[false, false, false, false, false, false] (by kernel_rfl) rfl rfl ⟨(blk_cell BK737.out 0).trans rfl, (blk_cell BK737.out 1).trans rfl, (blk_cell BK743.out 0).trans rfl, (blk_cell BK743.out 1).trans rfl⟩ (fun hHeld => ?_)
         generalize w291.drew = w292 at HO736 HO741 HO747 BK737 BK743 BK749 HB hHeld ⊢
         refine take_ (i := 0) (N := some 441) (v := ?_) (a' := ?_) #[true, false, false, false, false, false] rfl rfl (by kernel_rfl) (fun _ _ _ h => h) (Or.inl ⟨by rfl, ?_⟩) hHeld ?_ ?_
         rotate_left
         ·rintro w' ⟨s0, s1, s2, s3⟩
          go_simp
          with_reducible rfl
         rotate_left
         ·simp only [Act.put, List.setIfInBounds_toArray, List.set_cons_zero, List.set_cons_succ, i64_w, i32_w]
          rfl
         refine take_ (i := 2) (N := some 443) (v := ?_) (a' := ?_) #[true, false, true, false, false, false] rfl rfl (by kernel_rfl) (fun _ _ _ h => h) (Or.inl ⟨by rfl, ?_⟩) hHeld ?_ ?_
         rotate_left
         ·rintro w' ⟨s0, s1, s2, s3⟩
          go_simp
          with_reducible rfl
         rotate_left
         ·simp only [Act.put, List.setIfInBounds_toArray, List.set_cons_zero, List.set_cons_succ, i64_w, i32_w]
          rfl
         refine one_ (i := 1) (N := some 442) #[true, true, true, false, false, false] rfl rfl (by kernel_rfl) (by decide) (fun K hK => ?_)
         refine gs_ Try.func10 (by kernel_rfl) rfl #[.agg #[.int .i64 t733, .slice Ao277 t734.length co277]] (by rfl) rfl rfl ?_
         with_reducible refine (laws_kResult.calls kj200 t733 _ _ t734 t751 _ ?side1 ?side2 A272.out).mono ?_
         (case side1 => exact Cl_ (Kd.R_reads' HO736.out).2.2)
         (case side2 => exact (Kd.R_reads' HO736.out).2.1)
         rintro e w293 ⟨v752, rfl, ho0, hb⟩
         refine ⟨_, rfl, ?_⟩
         have HO753 := a_ (Kd.R_lower (Kd.R_new' (Kd.R_new' (Kd.R_new' ho0 (Kd.R_lt (Rl_ HO736.out))) (Kd.R_lt (Rl_ HO741.out))) (Kd.R_lt (Rl_ HO747.out))) (below_size (Bl_ HB)))
         replace HO736 := a_ (Kd.R_elder' (Rl_ HO736.out) (Kd.R_base ho0) hb)
         replace HO741 := a_ (Kd.R_elder' (Rl_ HO741.out) (Kd.R_base ho0) hb)
         replace HO747 := a_ (Kd.R_elder' (Rl_ HO747.out) (Kd.R_base ho0) hb)
         replace BK737 := blkB_ BK737 hb
         replace BK743 := blkB_ BK743 hb
         replace BK749 := blkB_ BK749 hb
         replace HB := Bs_ HB hb
         (try clear hb); (try clear hb2); (try clear hk); (try clear hi); (try clear ho0)
         refine hK.out _ _ ⟨(blk_cell BK737.out 0).trans rfl, (blk_cell BK737.out 1).trans rfl, (blk_cell BK743.out 0).trans rfl, (blk_cell BK743.out 1).trans rfl⟩ (fun hHeld => ?_)
         clear hK K
         refine norm_ (a' := ?_) ?_ ?_
         rotate_left
         ·show Act.put _ (some 442) _ = _
          simp only [Act.put, List.setIfInBounds_toArray, List.set_cons_zero, List.set_cons_succ, i64_w, i32_w]
          rfl
         refine one_ (i := 3) (N := some 444) #[true, true, true, true, false, false] rfl rfl (by kernel_rfl) (by decide) (fun K hK => ?_)
         refine gs_ Try.func10 (by kernel_rfl) rfl #[.agg #[.int .i64 t738, .slice Ao282 t739.length co282]] (by rfl) rfl rfl ?_
         with_reducible refine (laws_kResult.calls kj200 t738 _ _ t739 t754 _ ?side1 ?side2 A273.out).mono ?_
         (case side1 => exact Cl_ (Kd.R_reads' HO741.out).2.2)
         (case side2 => exact (Kd.R_reads' HO741.out).2.1)
         rintro e w294 ⟨v755, rfl, ho0, hb⟩
         refine ⟨_, rfl, ?_⟩
         have HO756 := a_ (Kd.R_lower (Kd.R_new' (Kd.R_new' (Kd.R_new' (Kd.R_new' ho0 (Kd.R_lt (Rl_ HO736.out))) (Kd.R_lt (Rl_ HO741.out))) (Kd.R_lt (Rl_ HO747.out))) (Kd.R_lt (Rl_ HO753.out))) (below_size (Bl_ HB)))
         replace HO736 := a_ (Kd.R_elder' (Rl_ HO736.out) (Kd.R_base ho0) hb)
         replace HO741 := a_ (Kd.R_elder' (Rl_ HO741.out) (Kd.R_base ho0) hb)
         replace HO747 := a_ (Kd.R_elder' (Rl_ HO747.out) (Kd.R_base ho0) hb)
         replace HO753 := a_ (Kd.R_elder' (Rl_ HO753.out) (Kd.R_base ho0) hb)
         replace BK737 := blkB_ BK737 hb
         replace BK743 := blkB_ BK743 hb
         replace BK749 := blkB_ BK749 hb
         replace HB := Bs_ HB hb
         (try clear hb); (try clear hb2); (try clear hk); (try clear hi); (try clear ho0)
         refine hK.out _ _ ⟨(blk_cell BK737.out 0).trans rfl, (blk_cell BK737.out 1).trans rfl, (blk_cell BK743.out 0).trans rfl, (blk_cell BK743.out 1).trans rfl⟩ (fun hHeld => ?_)
         clear hK K
         refine norm_ (a' := ?_) ?_ ?_
         rotate_left
         ·show Act.put _ (some 444) _ = _
          simp only [Act.put, List.setIfInBounds_toArray, List.set_cons_zero, List.set_cons_succ, i64_w, i32_w]
          rfl
         refine pure_ (i := 4) (N := some 65) (v := ?_) (a' := ?_) #[true, true, true, true, true, false] rfl rfl (by kernel_rfl) (fun _ _ _ h => h) (Or.inl ⟨by rfl, ?_⟩) ?_ ?_
         rotate_left
         ·intro w'
          go_simp
          with_reducible rfl
         rotate_left
         ·simp only [Act.put, List.setIfInBounds_toArray, List.set_cons_zero, List.set_cons_succ, i64_w, i32_w]
          rfl
         refine pure_ (i := 5) (N := some 66) (v := ?_) (a' := ?_) #[true, true, true, true, true, true] rfl rfl (by kernel_rfl) (fun _ _ _ h => h) (Or.inl ⟨by rfl, ?_⟩) ?_ ?_
         rotate_left
         ·intro w'
          go_simp
          with_reducible rfl
         rotate_left
         ·simp only [Act.put, List.setIfInBounds_toArray, List.set_cons_zero, List.set_cons_succ, i64_w, i32_w]
          rfl
         refine done_ (by kernel_rfl) ?_
         obtain ⟨Ao295, co295, eo295⟩ := Kd.R_slice HO753.out
         subst eo295
         try go_wp2
         go_loopg [447] kj200 (fun kq v447 w' => ∃ (x447_5 : Int), v447 = .int .i64 x447_5 ∧ Aside0 (laws_FnStartsTaken.l4 kq t754 t751 (t751.length : Int) x447_5 t733 t734 t738 t739 = some r) ∧ Aside0 (kq ≤ kj200) ∧ Aside0 (Kd.R (Kd.int .i64) 3 w' w.heap.size (fun k_ => some k_ ≠ ((.slice Ao295 t751.length co295) : Value).ownBlock ∧ some k_ ≠ ((.slice Ao277 t734.length co277) : Value).ownBlock ∧ some k_ ≠ ((.slice Ao282 t739.length co282) : Value).ownBlock) v755 t754) ∧ Aside0 (Kd.R (Kd.int .i64) 3 w' w.heap.size (fun k_ => some k_ ≠ (v755 : Value).ownBlock ∧ some k_ ≠ ((.slice Ao277 t734.length co277) : Value).ownBlock ∧ some k_ ≠ ((.slice Ao282 t739.length co282) : Value).ownBlock) (.slice Ao295 t751.length co295) t751) ∧ Aside0 (Kd.R (Kd.int .i64) 3 w' w.heap.size (fun k_ => some k_ ≠ (v755 : Value).ownBlock ∧ some k_ ≠ ((.slice Ao295 t751.length co295) : Value).ownBlock ∧ some k_ ≠ ((.slice Ao282 t739.length co282) : Value).ownBlock) (.slice Ao277 t734.length co277) t734) ∧ Aside0 (Kd.R (Kd.int .i64) 3 w' w.heap.size (fun k_ => some k_ ≠ (v755 : Value).ownBlock ∧ some k_ ≠ ((.slice Ao295 t751.length co295) : Value).ownBlock ∧ some k_ ≠ ((.slice Ao277 t734.length co277) : Value).ownBlock) (.slice Ao282 t739.length co282) t739) ∧ Aside0 (w'.heap[gb737]? = some (.cells #[.int .i64 t733, (.slice Ao277 t734.length co277)] 26 (0, 0))) ∧ Aside0 (w'.heap[gb743]? = some (.cells #[.int .i64 t738, (.slice Ao282 t739.length co282)] 26 (0, 0))) ∧ Aside0 (Below w.heap.size w w'))
         case atStart => exact ⟨(0), rs_, H', ⟨Nat.le_refl _⟩, ⟨Rl_ (Kd.R_mono HO756.out (fun _ hk => ⟨hk.2, ⟨hk.1.1.1.2, hk.1.1.2⟩⟩))⟩, ⟨Rl_ (Kd.R_mono HO753.out (fun _ hk => ⟨hk.2, ⟨hk.1.1.1.2, hk.1.1.2⟩⟩))⟩, ⟨Rl_ (Kd.R_mono HO736.out (fun _ hk => ⟨hk.2, ⟨hk.1.2, hk.1.1.1.2⟩⟩))⟩, ⟨Rl_ (Kd.R_mono HO741.out (fun _ hk => ⟨hk.2, ⟨hk.1.2, hk.1.1.1.2⟩⟩))⟩, ⟨bl_ BK737⟩, ⟨bl_ BK743⟩, ⟨Bl_ HB⟩⟩
         case round =>
          as_aux_lemma =>
          clear H'
          try clear c1
          try clear c2
          try clear p2
          try clear c3
          try clear c4
          try clear c5
          try clear c6
          try clear p6
          try clear q6
          try clear hx6
          try clear c7
          try clear p7
          try clear q7
          try clear hx7
          try clear c8
          try clear q8
          try clear c9
          try clear c10
          try clear c11
          try clear c12
          try clear c13
          try clear c14
          try clear c15
          try clear c16
          try clear c17
          try clear c18
          try clear c19
          try clear c20
          try clear c21
          try clear c22
          try clear c23
          try clear c24
          try clear c25
          try clear c26
          try clear c27
          try clear c28
          try clear c29
          try clear c30
          try clear c31
          try clear c31b0
          try clear c32
          try clear c32b0
          try clear c32b1
          try clear c33
          try clear c35
          try clear c36
          try clear c43
          try clear c46
          try clear c47
          try clear c48
          try clear c48b0
          try clear c48b1
          try clear c49
          try clear c51
          try clear c52
          try clear p62
          try clear q62
          try clear hx62
          try clear c63
          try clear c64
          try clear p64
          try clear p72
          try clear q72
          try clear hx72
          try clear p73
          try clear q73
          try clear hx73
          try clear c76
          try clear c76b0
          try clear c77
          try clear c77b0
          try clear c78
          try clear c78b0
          try clear c79
          try clear c79b0
          try clear c80
          try clear c80b0
          try clear c80b1
          try clear q81
          try clear c82
          try clear c82b0
          try clear c83
          try clear c83b0
          try clear c84
          try clear c84b0
          try clear c87
          try clear c88
          try clear c89
          try clear c89b0
          try clear c89b1
          try clear c90
          try clear c98
          try clear c98b0
          try clear c98b1
          try clear c98b2
          try clear c100
          try clear c109
          try clear c115
          try clear c116
          try clear c121
          try clear c124
          try clear c127
          try clear c128
          try clear c129
          try clear c134
          try clear c142
          try clear c142b0
          try clear c142b1
          try clear c142b2
          try clear c144
          try clear c152
          try clear c158
          try clear c159
          try clear c164
          try clear c168
          try clear c169
          try clear c169b0
          try clear c169b1
          try clear c170
          try clear c172
          try clear c173
          try clear c175
          try clear c176
          try clear c177
          try clear c183
          try clear c184
          try clear c185
          try clear c191
          try clear c198
          try clear c198b0
          try clear c198b1
          try clear c198b2
          try clear c200
          try clear c205
          try clear c212
          try clear c213
          try clear c220
          try clear c221
          try clear c222
          try clear c227
          try clear c232
          try clear c233
          try clear c234
          try clear c234b0
          try clear c234b1
          try clear c235
          try clear c236
          try clear c237
          try clear c239
          try clear c240
          try clear c250
          try clear c250b0
          try clear c251
          try clear c251b0
          try clear c252
          try clear c252b0
          try clear c253
          try clear c253b0
          try clear c254
          try clear c254b0
          try clear c254b1
          try clear c255
          try clear c255b0
          try clear c257
          try clear c257b0
          try clear c258
          try clear c258b0
          try clear c259
          try clear c259b0
          try clear c259b1
          try clear c260
          try clear c260b0
          try clear c262
          try clear c262b0
          try clear c263
          try clear c263b0
          try clear c264
          try clear c264b0
          try clear c264b1
          try clear c268
          try clear c268b0
          try clear c268b1
          try clear c268b2
          try clear c270
          try clear c271
          try clear c280
          try clear c286
          try clear c287
          try clear hcz104_0
          try clear hcz104_1
          try clear hcz110_0
          try clear hcz110_1
          try clear hcz112_0
          try clear hcz112_1
          try clear hcz117_0
          try clear hcz117_1
          try clear hcz119_0
          try clear hcz119_1
          try clear hcz130_0
          try clear hcz130_1
          try clear hcz135_0
          try clear hcz135_1
          try clear hcz148_0
          try clear hcz148_1
          try clear hcz14_0
          try clear hcz14_1
          try clear hcz153_0
          try clear hcz153_1
          try clear hcz155_0
          try clear hcz155_1
          try clear hcz160_0
          try clear hcz160_1
          try clear hcz162_0
          try clear hcz162_1
          try clear hcz178_0
          try clear hcz178_1
          try clear hcz180_0
          try clear hcz180_1
          try clear hcz186_0
          try clear hcz186_1
          try clear hcz188_0
          try clear hcz188_1
          try clear hcz190_0
          try clear hcz190_1
          try clear hcz192_0
          try clear hcz192_1
          try clear hcz19_0
          try clear hcz19_1
          try clear hcz206_0
          try clear hcz206_1
          try clear hcz208_0
          try clear hcz208_1
          try clear hcz214_0
          try clear hcz214_1
          try clear hcz216_0
          try clear hcz216_1
          try clear hcz217_0
          try clear hcz217_1
          try clear hcz21_0
          try clear hcz21_1
          try clear hcz223_0
          try clear hcz223_1
          try clear hcz225_0
          try clear hcz225_1
          try clear hcz238_0
          try clear hcz238_1
          try clear hcz241_0
          try clear hcz241_1
          try clear hcz26_0
          try clear hcz26_1
          try clear hcz276_0
          try clear hcz276_1
          try clear hcz281_0
          try clear hcz281_1
          try clear hcz283_0
          try clear hcz283_1
          try clear hcz288_0
          try clear hcz288_1
          try clear hcz28_0
          try clear hcz28_1
          try clear hcz290_0
          try clear hcz290_1
          try clear hcz34_0
          try clear hcz34_1
          try clear hcz37_0
          try clear hcz37_1
          try clear hcz53_0
          try clear hcz53_1
          try clear hcz58_0
          try clear hcz58_1
          try clear hcz60_0
          try clear hcz60_1
          try clear hcz65_0
          try clear hcz65_1
          try clear hcz67_0
          try clear hcz67_1
          try clear hcz71_0
          try clear hcz71_1
          try clear hcz72_0
          try clear hcz72_1
          try clear hcz74_0
          try clear hcz74_1
          try clear hcz91_0
          try clear hcz91_1
          try clear hcz93_0
          try clear hcz93_1
          try clear hfz104_0
          try clear hfz104_1
          try clear hfz110_0
          try clear hfz110_1
          try clear hfz112_0
          try clear hfz112_1
          try clear hfz117_0
          try clear hfz117_1
          try clear hfz119_0
          try clear hfz119_1
          try clear hfz130_0
          try clear hfz130_1
          try clear hfz135_0
          try clear hfz135_1
          try clear hfz148_0
          try clear hfz148_1
          try clear hfz14_0
          try clear hfz14_1
          try clear hfz153_0
          try clear hfz153_1
          try clear hfz155_0
          try clear hfz155_1
          try clear hfz160_0
          try clear hfz160_1
          try clear hfz162_0
          try clear hfz162_1
          try clear hfz178_0
          try clear hfz178_1
          try clear hfz180_0
          try clear hfz180_1
          try clear hfz186_0
          try clear hfz186_1
          try clear hfz188_0
          try clear hfz188_1
          try clear hfz190_0
          try clear hfz190_1
          try clear hfz192_0
          try clear hfz192_1
          try clear hfz19_0
          try clear hfz19_1
          try clear hfz206_0
          try clear hfz206_1
          try clear hfz208_0
          try clear hfz208_1
          try clear hfz214_0
          try clear hfz214_1
          try clear hfz216_0
          try clear hfz216_1
          try clear hfz217_0
          try clear hfz217_1
          try clear hfz21_0
          try clear hfz21_1
          try clear hfz223_0
          try clear hfz223_1
          try clear hfz225_0
          try clear hfz225_1
          try clear hfz238_0
          try clear hfz238_1
          try clear hfz241_0
          try clear hfz241_1
          try clear hfz26_0
          try clear hfz26_1
          try clear hfz276_0
          try clear hfz276_1
          try clear hfz281_0
          try clear hfz281_1
          try clear hfz283_0
          try clear hfz283_1
          try clear hfz288_0
          try clear hfz288_1
          try clear hfz28_0
          try clear hfz28_1
          try clear hfz290_0
          try clear hfz290_1
          try clear hfz34_0
          try clear hfz34_1
          try clear hfz37_0
          try clear hfz37_1
          try clear hfz53_0
          try clear hfz53_1
          try clear hfz58_0
          try clear hfz58_1
          try clear hfz60_0
          try clear hfz60_1
          try clear hfz65_0
          try clear hfz65_1
          try clear hfz67_0
          try clear hfz67_1
          try clear hfz71_0
          try clear hfz71_1
          try clear hfz72_0
          try clear hfz72_1
          try clear hfz74_0
          try clear hfz74_1
          try clear hfz91_0
          try clear hfz91_1
          try clear hfz93_0
          try clear hfz93_1
          try clear hx620_0
          try clear hx625_0
          try clear hx729_0
          try clear hx730_0
          try clear hx731_0
          try clear hx732_0
          try clear p2
          try clear p6
          try clear p62
          try clear p620
          try clear p625
          try clear p64
          try clear p7
          try clear p72
          try clear p729
          try clear p73
          try clear p730
          try clear p731
          try clear p732
          try clear q6
          try clear q62
          try clear q620
          try clear q625
          try clear q7
          try clear q72
          try clear q729
          try clear q73
          try clear q730
          try clear q731
          try clear q732
          try clear q8
          try clear q81
          obtain ⟨x447_5, rfl, HA, HK5, HO_66, HO_445, HO_738001, HO_744001, BK737, BK743, HB⟩ := hrel
          cases gk with
          | zero => exact absurd HA.out (by simp [laws_FnStartsTaken.l4])
          | succ k5 =>
           have H := HA.out
           clear HA
           simp only [laws_FnStartsTaken.l4] at H
           by_cases c296 : x447_5 < (t751.length : Int)
           rotate_left
           ·rw [if_neg c296] at H
            have c296b0 : decide (x447_5 < (t751.length : Int)) = false := decide_eq_false c296
            clear c296
            obtain rfl := Option.some.inj H
            have hnb308 := NB743_737.out
            have hnc308 := NB737_743.out
            have hcz309_0 : wr.cell? ⟨gb743, 0, none⟩ = some (.int .i64 t738) := (blk_cell BK743.out 0).trans rfl
            have hcz309_1 : wr.cell? ⟨gb743, 1, none⟩ = some (.slice Ao282 t739.length co282) := (blk_cell BK743.out 1).trans rfl
            have hfz309_0 := fz_ BK743 0
            have hfz309_1 := fz_ BK743 1
            have hcz310_0 : wr.cell? ⟨gb737, 0, none⟩ = some (.int .i64 t733) := (blk_cell BK737.out 0).trans rfl
            have hcz310_1 : wr.cell? ⟨gb737, 1, none⟩ = some (.slice Ao277 t734.length co277) := (blk_cell BK737.out 1).trans rfl
            have hfz310_0 := fz_ BK737 0
            have hfz310_1 := fz_ BK737 1
            go_wp2
            go_ret
            exact ⟨re_, Bl_ HB⟩
           rw [if_pos c296] at H
           have c296b0 : decide (x447_5 < (t751.length : Int)) = true := decide_eq_true c296
           clear c296
           by_cases c297 : 0 ≤ x447_5
           rotate_left
           ·rw [if_neg c297] at H
            cases H
           rw [if_pos c297] at H
           have c297b0 : decide (0 ≤ x447_5) = true := decide_eq_true c297
           clear c297
           by_cases c298 : x447_5 < (t751.length : Int)
           rotate_left
           ·rw [if_neg c298] at H
            cases H
           rw [if_pos c298] at H
           have c298b0 : decide (x447_5 < (t751.length : Int)) = true := decide_eq_true c298
           clear c298
           obtain ⟨ji299, hji299⟩ : ∃ j_ : Int, (wrap64 (2 * x447_5)) = j_ := ⟨_, rfl⟩
           replace H : (if 0 ≤ (ji299) then (if (ji299) < (t754.length : Int) then (if (rd t754 (ji299)) = (wrap64 (2 * (rd t751 x447_5))) then (if 0 ≤ (wrap64 ((ji299) + 1)) then (if (wrap64 ((ji299) + 1)) < (t754.length : Int) then (if (rd t754 (wrap64 ((ji299) + 1))) = (wrap64 ((wrap64 (2 * (rd t751 x447_5))) + 1)) then (laws_FnStartsTaken.l4 k5 t754 t751 (t751.length : Int) (wrap64 (x447_5 + 1)) t733 t734 t738 t739) else (none)) else (none)) else (none)) else (none)) else (none)) else (none)) = some r := by first | (rw [hji299] at H; exact H) | (simp only [hji299] at H ⊢; exact H)
           have hji299w : (IntKind.i64.wrap (2 * x447_5)) = ji299 := (i64_w _).trans hji299
           by_cases c300 : 0 ≤ (ji299)
           rotate_left
           ·rw [if_neg c300] at H
            cases H
           rw [if_pos c300] at H
           have c300b0 : decide (0 ≤ (ji299)) = true := decide_eq_true c300
           clear c300
           by_cases c301 : (ji299) < (t754.length : Int)
           rotate_left
           ·rw [if_neg c301] at H
            cases H
           rw [if_pos c301] at H
           have c301b0 : decide ((ji299) < (t754.length : Int)) = true := decide_eq_true c301
           clear c301
           by_cases c302 : (rd t754 (ji299)) = (wrap64 (2 * (rd t751 x447_5)))
           rotate_left
           ·rw [if_neg c302] at H
            cases H
           rw [if_pos c302] at H
           have c302b0 : ((rd t754 (ji299)) == (wrap64 (2 * (rd t751 x447_5)))) = true := beq_iff_eq.mpr c302
           have c302b1 : ((rd t754 (ji299)) != (wrap64 (2 * (rd t751 x447_5)))) = false := bne_eq_false_iff_eq.mpr c302
           clear c302
           obtain ⟨ji303, hji303⟩ : ∃ j_ : Int, (wrap64 ((ji299) + 1)) = j_ := ⟨_, rfl⟩
           replace H : (if 0 ≤ (ji303) then (if (ji303) < (t754.length : Int) then (if (rd t754 (ji303)) = (wrap64 ((wrap64 (2 * (rd t751 x447_5))) + 1)) then (laws_FnStartsTaken.l4 k5 t754 t751 (t751.length : Int) (wrap64 (x447_5 + 1)) t733 t734 t738 t739) else (none)) else (none)) else (none)) = some r := by first | (rw [hji303] at H; exact H) | (simp only [hji303] at H ⊢; exact H)
           have hji303w : (IntKind.i64.wrap ((ji299) + 1)) = ji303 := (i64_w _).trans hji303
           by_cases c304 : 0 ≤ (ji303)
           rotate_left
           ·rw [if_neg c304] at H
            cases H
           rw [if_pos c304] at H
           have c304b0 : decide (0 ≤ (ji303)) = true := decide_eq_true c304
           clear c304
           by_cases c305 : (ji303) < (t754.length : Int)
           rotate_left
           ·rw [if_neg c305] at H
            cases H
           rw [if_pos c305] at H
           have c305b0 : decide ((ji303) < (t754.length : Int)) = true := decide_eq_true c305
           clear c305
           by_cases c306 : (rd t754 (ji303)) = (wrap64 ((wrap64 (2 * (rd t751 x447_5))) + 1))
           rotate_left
           ·rw [if_neg c306] at H
            cases H
           rw [if_pos c306] at H
           have c306b0 : ((rd t754 (ji303)) == (wrap64 ((wrap64 (2 * (rd t751 x447_5))) + 1))) = true := beq_iff_eq.mpr c306
           have c306b1 : ((rd t754 (ji303)) != (wrap64 ((wrap64 (2 * (rd t751 x447_5))) + 1))) = false := bne_eq_false_iff_eq.mpr c306
           clear c306
           have H' := a_ H
           clear H
           have p757 : 0 ≤ (x447_5 : Int) := od_
           have q757 : x447_5 < (t751.length : Int) := od_
           obtain ⟨ad757, e757, hx757_0⟩ := Kd.at_int (Kd.R_reads' HO_445.out).2.2 x447_5 p757 q757
           cases e757
           replace p757 := eq_true p757
           replace q757 := eq_true q757
           obtain ⟨Ao307, co307, eo307⟩ := Kd.R_slice HO_66.out
           subst eo307
           have p758 : 0 ≤ ((ji299) : Int) := od_
           have q758 : (ji299) < (t754.length : Int) := od_
           obtain ⟨ad758, e758, hx758_0⟩ := Kd.at_int (Kd.R_reads' HO_66.out).2.2 (ji299) p758 q758
           cases e758
           replace p758 := eq_true p758
           replace q758 := eq_true q758
           have p759 : 0 ≤ ((ji303) : Int) := od_
           have q759 : (ji303) < (t754.length : Int) := od_
           obtain ⟨ad759, e759, hx759_0⟩ := Kd.at_int (Kd.R_reads' HO_66.out).2.2 (ji303) p759 q759
           obtain rfl : ad758 = ad759 := (by injection e759)
           replace p759 := eq_true p759
           replace q759 := eq_true q759
           go_wp2
           go_roundg k5
           case measure => have := HJ10.out; have := HJ100.out; have := HJ144.out; have := HJ200.out; have := HK5.out; omega
           case rel => exact ⟨(wrap64 (x447_5 + 1)), rs_, H', ⟨by have := HJ10.out; have := HJ100.out; have := HJ144.out; have := HJ200.out; have := HK5.out; omega⟩, ⟨Rl_ HO_66.out⟩, ⟨Rl_ HO_445.out⟩, ⟨Rl_ HO_738001.out⟩, ⟨Rl_ HO_744001.out⟩, ⟨bl_ BK737⟩, ⟨bl_ BK743⟩, ⟨Bl_ HB⟩⟩

/-- THE ONE PURE STATEMENT of laws_FnStartsTaken: yours. -/
def laws_FnStartsTaken.Pure : Prop := ∀ (l0 : List Int) (l1 : List Int), l0.length ≤ maxLen → l0.length * 1 ≤ 140737488351232 → (∀ x ∈ l0, (Lit.int .u8 x).wf = true) → l1.length ≤ maxLen → l1.length * 1 ≤ 140737488351232 → (∀ x ∈ l1, (Lit.int .u8 x).wf = true) → ∃ k, laws_FnStartsTaken.f k l0 l1 = some true
theorem laws_FnStartsTaken.walk (P : laws_FnStartsTaken.Pure) (a0 : Option Addr) (len0 cap0 : Nat) (z0 : List Int) (a1 : Option Addr) (len1 cap1 : Nat) (z1 : List Int) (w : World) (w0 : (a0 = none ∧ len0 = 0 ∧ cap0 = 0 ∧ z0 = []) ∨ ∃ x, a0 = some x ∧ len0 ≤ cap0 ∧ cap0 ≤ maxLen ∧ z0.length = cap0 ∧ (∀ i, i < z0.length → w.cell? (x.add i) = some (.int .u8 (z0.getD i 0))) ∧ ∀ n ∈ z0, (Lit.int .u8 n).wf = true) (y0 : len0 * 1 ≤ 140737488351232) (w1 : (a1 = none ∧ len1 = 0 ∧ cap1 = 0 ∧ z1 = []) ∨ ∃ x, a1 = some x ∧ len1 ≤ cap1 ∧ cap1 ≤ maxLen ∧ z1.length = cap1 ∧ (∀ i, i < z1.length → w.cell? (x.add i) = some (.int .u8 (z1.getD i 0))) ∧ ∀ n ∈ z1, (Lit.int .u8 n).wf = true) (y1 : len1 * 1 ≤ 140737488351232) :
 Calls Try.prog 3 #[.slice a0 len0 cap0, .slice a1 len1 cap1] w fun e w' => e = .returned (.bool true) ∧ Below w.heap.size w w' := by
 obtain ⟨l0, rfl, hr0, hm0, hw0, hc0⟩ := ReadsInt.ofRowC w0
 obtain ⟨l1, rfl, hr1, hm1, hw1, hc1⟩ := ReadsInt.ofRowC w1
 obtain ⟨k, h⟩ := P l0 l1 hm0 y0 hw0 hm1 y1 hw1
 refine (laws_FnStartsTaken.calls k _ _ l0 _ _ l1 true w (Kd.C_of_reads (d := (0 : Int)) (h1 := fun _ => rfl) hr0) hc0 (Kd.C_of_reads (d := (0 : Int)) (h1 := fun _ => rfl) hr1) hc1 h).mono ?_
 rintro e w' ⟨rfl, hd⟩
 exact ⟨rfl, hd⟩

end Go.Proofs.Ytakddaclgppdjaa.B
