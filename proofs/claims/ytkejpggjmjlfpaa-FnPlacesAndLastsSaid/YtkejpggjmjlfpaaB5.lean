/- The walks of functions of the given program and of its reference: each call of the machine returns what the plain Lean function of the same name says. Conditions: those in each statement. (Written by this session's program over the kit's print.) -/
import Derived.Test.YtkejpggjmjlfpaaB0
import Derived.Test.YtkejpggjmjlfpaaB1
import Derived.Test.YtkejpggjmjlfpaaB3
import Derived.Test.YtkejpggjmjlfpaaB4
namespace Go.Proofs.Ytkejpggjmjlfpaa.B
open Go.RowKit Go.Proofs.YtkejpggjmjlfpaaW.PrintWords Go.Proofs.YtkejpggjmjlfpaaW.PrintLast Go.Proofs.YtkejpggjmjlfpaaW.PrintMore
attribute [local go_sem] max2_int min2_int max_two min_two max_three min_three max_four min_four   -- for this text's walks alone
set_option linter.unusedVariables false
set_option linter.unusedSimpArgs false

/-! ### laws_FnPlacesAndLasts: function 3 -/
mutual
def laws_FnPlacesAndLasts.j0 : Nat → List Int → Int → Int → Int → Int → Bool → Bool → List Int → Bool → Option (Bool)
 | 0, _, _, _, _, _, _, _, _, _ => none
 | k + 1, x1, x5, x6, x7, x8, x9, x10, x13, x150 => if x150 = true then (none) else (if x10 = true then (if x8 = 0 then (if (x9 != (x6 == x7)) = true then (none) else (if (x13.length : Int) = 0 then (if x8 > 0 then (if (x9 != (decide ((x13.length : Int) > 0))) = true then (none) else (if x8 ≥ 2 then (laws_FnPlacesAndLasts.l0 k x1 x5 x6 x7 x8 x13 (x13.length : Int) 0) else (laws_FnPlacesAndLasts.j4 k x1))) else (if x8 ≥ 2 then (laws_FnPlacesAndLasts.l0 k x1 x5 x6 x7 x8 x13 (x13.length : Int) 0) else (laws_FnPlacesAndLasts.j4 k x1))) else (none))) else (if x8 > 0 then (if (x9 != (decide ((x13.length : Int) > 0))) = true then (none) else (if x8 ≥ 2 then (laws_FnPlacesAndLasts.l0 k x1 x5 x6 x7 x8 x13 (x13.length : Int) 0) else (laws_FnPlacesAndLasts.j4 k x1))) else (if x8 ≥ 2 then (laws_FnPlacesAndLasts.l0 k x1 x5 x6 x7 x8 x13 (x13.length : Int) 0) else (laws_FnPlacesAndLasts.j4 k x1)))) else (laws_FnPlacesAndLasts.j4 k x1))
def laws_FnPlacesAndLasts.j4 : Nat → List Int → Option (Bool)
 | 0, _ => none
 | k + 1, x1 => (spec_DrawLastMoves.f k x1).bind fun bt541 => ((impl_LastMoves.f k bt541.1 bt541.2).bind fun bt546 => ((spec_LastMoves.f k bt541.1 bt541.2).bind fun bt550 => ((impl_LastWins.f k bt541.1 bt541.2).bind fun bt554 => ((spec_LastWins.f k bt541.1 bt541.2).bind fun bt556 => (if (bt546.2 != bt550.2) = true then (none) else ((laws_nSame.f k bt546.1 bt550.1).bind fun t558 => (if t558 = true then (if (bt554.2 != bt556.2) = true then (none) else (if (bt554.1 != bt556.1) = true then (none) else (if (bt554.2 != bt546.2) = true then (none) else (if bt546.2 = true then ((impl_IsLeast.f k bt541.1 bt541.2).bind fun bt559 => (if bt559.2 = true then (if bt559.1 = true then (if (bt546.1.length : Int) = 0 then (if bt554.1 = true then (none) else (laws_FnPlacesAndLasts.l2 k bt546.1 bt554.1 0 bt541.1 bt541.2)) else (laws_FnPlacesAndLasts.l2 k bt546.1 bt554.1 0 bt541.1 bt541.2)) else (none)) else (none))) else (some true))))) else (none))))))))
def laws_FnPlacesAndLasts.l2 : Nat → List Int → Bool → Int → Int → List Int → Option (Bool)
 | 0, _, _, _, _, _ => none
 | k + 1, x29, x33, x39, x546000, x546001 => if x39 < (wrap64 (x546000 - 1)) then ((impl_AddRung.f k x546000 x546001 (x546001.length : Int) x39).bind fun bt561 => ((impl_IsLeast.f k bt561.1 bt561.2.1).bind fun bt567 => (if bt561.2.2 = true then (if bt567.2 = true then ((laws_nHas.f k x29 x39).bind fun t569 => (if (bt567.1 != t569) = true then (none) else (if bt567.1 = true then ((impl_LastWins.f k bt561.1 bt561.2.1).bind fun bt570 => (if bt570.2 = true then (if (bt570.1 == x33) = true then (none) else (laws_FnPlacesAndLasts.l2 k x29 x33 (wrap64 (x39 + 1)) x546000 x546001)) else (none))) else (laws_FnPlacesAndLasts.l2 k x29 x33 (wrap64 (x39 + 1)) x546000 x546001)))) else (none)) else (none)))) else (some true)
def laws_FnPlacesAndLasts.l0 : Nat → List Int → Int → Int → Int → Int → List Int → Int → Int → Option (Bool)
 | 0, _, _, _, _, _, _, _, _ => none
 | k + 1, x1, x5, x6, x7, x8, x179, x180, x181 => if x181 < x180 then (if 0 ≤ x181 then (if x181 < (x179.length : Int) then (if x6 = (rd x179 x181) then (laws_FnPlacesAndLasts.j2 k x1 x5 x6 x7 x8 (wrap64 ((rd x179 x181) + 1)) x179 x180 x181) else (if x6 = (wrap64 ((rd x179 x181) + 1)) then (laws_FnPlacesAndLasts.j2 k x1 x5 x6 x7 x8 (rd x179 x181) x179 x180 x181) else (laws_FnPlacesAndLasts.j2 k x1 x5 x6 x7 x8 x6 x179 x180 x181))) else (none)) else (none)) else (laws_FnPlacesAndLasts.j4 k x1)
def laws_FnPlacesAndLasts.j2 : Nat → List Int → Int → Int → Int → Int → Int → List Int → Int → Int → Option (Bool)
 | 0, _, _, _, _, _, _, _, _, _ => none
 | k + 1, x1, x5, x6, x7, x8, x23, x179, x180, x181 => laws_FnPlacesAndLasts.l1 k x1 x5 x6 x7 x8 x23 0 x179 x180 x181
def laws_FnPlacesAndLasts.l1 : Nat → List Int → Int → Int → Int → Int → Int → Int → List Int → Int → Int → Option (Bool)
 | 0, _, _, _, _, _, _, _, _, _, _ => none
 | k + 1, x1, x5, x6, x7, x8, x23, x24, x179, x180, x181 => if x24 < (wrap64 (x5 - 1)) then (if x23 = x24 then ((impl_PlaceWinner.f k x5 (wrap64 (x24 + 1)) x7 (wrap64 (x8 - 2))).bind fun bt535 => (if bt535.2 = true then (if bt535.1 = true then (laws_FnPlacesAndLasts.l1 k x1 x5 x6 x7 x8 x23 (wrap64 (x24 + 1)) x179 x180 x181) else (none)) else (none))) else (if x23 = (wrap64 (x24 + 1)) then ((impl_PlaceWinner.f k x5 x24 x7 (wrap64 (x8 - 2))).bind fun bt537 => (if bt537.2 = true then (if bt537.1 = true then (laws_FnPlacesAndLasts.l1 k x1 x5 x6 x7 x8 x23 (wrap64 (x24 + 1)) x179 x180 x181) else (none)) else (none))) else ((impl_PlaceWinner.f k x5 x23 x7 (wrap64 (x8 - 2))).bind fun bt539 => (if bt539.2 = true then (if bt539.1 = true then (laws_FnPlacesAndLasts.l1 k x1 x5 x6 x7 x8 x23 (wrap64 (x24 + 1)) x179 x180 x181) else (none)) else (none))))) else (laws_FnPlacesAndLasts.l0 k x1 x5 x6 x7 x8 x179 x180 (wrap64 (x181 + 1)))
end
def laws_FnPlacesAndLasts.f (k : Nat) (l0 : List Int) (l1 : List Int) : Option (Bool) := (laws_big.f l0 l1).bind fun t506 => (if t506 = true then (some true) else ((spec_DrawPlaceWinner.f l0).bind fun bt507 => ((impl_PlaceWinner.f k bt507.1 bt507.2.1 bt507.2.2.1 bt507.2.2.2).bind fun bt511 => ((spec_PlaceWinner.f k bt507.1 bt507.2.1 bt507.2.2.1 bt507.2.2.2).bind fun bt513 => ((impl_GoodPlaces.f k bt507.1 bt507.2.1 bt507.2.2.1 bt507.2.2.2).bind fun bt515 => ((spec_GoodPlaces.f k bt507.1 bt507.2.1 bt507.2.2.1 bt507.2.2.2).bind fun bt519 => ((impl_PlacesWon.f k bt507.1 bt507.2.2.1 bt507.2.2.2).bind fun bt523 => ((spec_PlacesWon.f k bt507.1 bt507.2.2.1 bt507.2.2.2).bind fun bt527 => (if (bt511.2 != bt513.2) = true then (laws_FnPlacesAndLasts.j0 k l1 bt507.1 bt507.2.1 bt507.2.2.1 bt507.2.2.2 bt511.1 bt511.2 bt515.1 true) else (if (bt511.1 != bt513.1) = true then (laws_FnPlacesAndLasts.j0 k l1 bt507.1 bt507.2.1 bt507.2.2.1 bt507.2.2.2 bt511.1 bt511.2 bt515.1 true) else (if (bt515.2 != bt519.2) = true then (laws_FnPlacesAndLasts.j0 k l1 bt507.1 bt507.2.1 bt507.2.2.1 bt507.2.2.2 bt511.1 bt511.2 bt515.1 true) else ((laws_nSame.f k bt515.1 bt519.1).bind fun t531 => (if t531 = true then (if (bt523.2 != bt527.2) = true then (laws_FnPlacesAndLasts.j0 k l1 bt507.1 bt507.2.1 bt507.2.2.1 bt507.2.2.2 bt511.1 bt511.2 bt515.1 true) else ((laws_nSame.f k bt523.1 bt527.1).bind fun t532 => (if t532 = true then (if (bt515.2 != bt511.2) = true then (laws_FnPlacesAndLasts.j0 k l1 bt507.1 bt507.2.1 bt507.2.2.1 bt507.2.2.2 bt511.1 bt511.2 bt515.1 true) else (if bt511.2 = true then (if bt523.2 = true then ((laws_nHas.f k bt523.1 bt507.2.1).bind fun t533 => (laws_FnPlacesAndLasts.j0 k l1 bt507.1 bt507.2.1 bt507.2.2.1 bt507.2.2.2 bt511.1 bt511.2 bt515.1 (bt511.1 != t533))) else (laws_FnPlacesAndLasts.j0 k l1 bt507.1 bt507.2.1 bt507.2.2.1 bt507.2.2.2 bt511.1 bt511.2 bt515.1 true)) else (laws_FnPlacesAndLasts.j0 k l1 bt507.1 bt507.2.1 bt507.2.2.1 bt507.2.2.2 bt511.1 bt511.2 bt515.1 false))) else (laws_FnPlacesAndLasts.j0 k l1 bt507.1 bt507.2.1 bt507.2.2.1 bt507.2.2.2 bt511.1 bt511.2 bt515.1 true)))) else (laws_FnPlacesAndLasts.j0 k l1 bt507.1 bt507.2.1 bt507.2.2.1 bt507.2.2.2 bt511.1 bt511.2 bt515.1 true))))))))))))))
theorem laws_FnPlacesAndLasts.mono_l : ∀ k, (∀ y0 y1 y2 y3 y4 y5 y6 y7 y8, LeO (laws_FnPlacesAndLasts.j0 k y0 y1 y2 y3 y4 y5 y6 y7 y8) (laws_FnPlacesAndLasts.j0 (k + 1) y0 y1 y2 y3 y4 y5 y6 y7 y8)) ∧ (∀ y0, LeO (laws_FnPlacesAndLasts.j4 k y0) (laws_FnPlacesAndLasts.j4 (k + 1) y0)) ∧ (∀ y0 y1 y2 y3 y4, LeO (laws_FnPlacesAndLasts.l2 k y0 y1 y2 y3 y4) (laws_FnPlacesAndLasts.l2 (k + 1) y0 y1 y2 y3 y4)) ∧ (∀ y0 y1 y2 y3 y4 y5 y6 y7, LeO (laws_FnPlacesAndLasts.l0 k y0 y1 y2 y3 y4 y5 y6 y7) (laws_FnPlacesAndLasts.l0 (k + 1) y0 y1 y2 y3 y4 y5 y6 y7)) ∧ (∀ y0 y1 y2 y3 y4 y5 y6 y7 y8, LeO (laws_FnPlacesAndLasts.j2 k y0 y1 y2 y3 y4 y5 y6 y7 y8) (laws_FnPlacesAndLasts.j2 (k + 1) y0 y1 y2 y3 y4 y5 y6 y7 y8)) ∧ (∀ y0 y1 y2 y3 y4 y5 y6 y7 y8 y9, LeO (laws_FnPlacesAndLasts.l1 k y0 y1 y2 y3 y4 y5 y6 y7 y8 y9) (laws_FnPlacesAndLasts.l1 (k + 1) y0 y1 y2 y3 y4 y5 y6 y7 y8 y9))
 | 0 => ⟨fun _ _ _ _ _ _ _ _ _ r h => by simp [laws_FnPlacesAndLasts.j0] at h, fun _ r h => by simp [laws_FnPlacesAndLasts.j4] at h, fun _ _ _ _ _ r h => by simp [laws_FnPlacesAndLasts.l2] at h, fun _ _ _ _ _ _ _ _ r h => by simp [laws_FnPlacesAndLasts.l0] at h, fun _ _ _ _ _ _ _ _ _ r h => by simp [laws_FnPlacesAndLasts.j2] at h, fun _ _ _ _ _ _ _ _ _ _ r h => by simp [laws_FnPlacesAndLasts.l1] at h⟩
 | k + 1 => by
  obtain ⟨ih0, ih1, ih2, ih3, ih4, ih5⟩ := laws_FnPlacesAndLasts.mono_l k
  refine ⟨?_, ?_, ?_, ?_, ?_, ?_⟩
  ·intro y0 y1 y2 y3 y4 y5 y6 y7 y8
   unfold laws_FnPlacesAndLasts.j0
   repeat' first
   | (with_reducible exact ih1 _)
   | (with_reducible exact ih3 _ _ _ _ _ _ _ _)
   | (with_reducible exact LeO.refl _)
   | (with_reducible exact LeO.none _)
   | (with_reducible refine LeO.ite ?_ ?_)
   | (with_reducible refine LeO.bind ?_ (fun _ => ?_))
   | exact LeO.none _
   | refine LeO.ite ?_ ?_
   | refine LeO.bind ?_ (fun _ => ?_)
  ·intro y0
   unfold laws_FnPlacesAndLasts.j4
   repeat' first
   | (with_reducible exact ih2 _ _ _ _ _)
   | (with_reducible exact impl_IsLeast.mono _ _ _)
   | (with_reducible exact impl_LastMoves.mono _ _ _)
   | (with_reducible exact impl_LastWins.mono _ _ _)
   | (with_reducible exact laws_nSame.mono _ _ _)
   | (with_reducible exact spec_DrawLastMoves.mono _ _)
   | (with_reducible exact spec_LastMoves.mono _ _ _)
   | (with_reducible exact spec_LastWins.mono _ _ _)
   | (with_reducible exact LeO.refl _)
   | (with_reducible exact LeO.none _)
   | (with_reducible refine LeO.ite ?_ ?_)
   | (with_reducible refine LeO.bind ?_ (fun _ => ?_))
   | exact LeO.none _
   | refine LeO.ite ?_ ?_
   | refine LeO.bind ?_ (fun _ => ?_)
  ·intro y0 y1 y2 y3 y4
   unfold laws_FnPlacesAndLasts.l2
   repeat' first
   | (with_reducible exact ih2 _ _ _ _ _)
   | (with_reducible exact impl_AddRung.mono _ _ _ _ _)
   | (with_reducible exact impl_IsLeast.mono _ _ _)
   | (with_reducible exact impl_LastWins.mono _ _ _)
   | (with_reducible exact laws_nHas.mono _ _ _)
   | (with_reducible exact LeO.refl _)
   | (with_reducible exact LeO.none _)
   | (with_reducible refine LeO.ite ?_ ?_)
   | (with_reducible refine LeO.bind ?_ (fun _ => ?_))
   | exact LeO.none _
   | refine LeO.ite ?_ ?_
   | refine LeO.bind ?_ (fun _ => ?_)
  ·intro y0 y1 y2 y3 y4 y5 y6 y7
   unfold laws_FnPlacesAndLasts.l0
   repeat' first
   | (with_reducible exact ih1 _)
   | (with_reducible exact ih4 _ _ _ _ _ _ _ _ _)
   | (with_reducible exact LeO.refl _)
   | (with_reducible exact LeO.none _)
   | (with_reducible refine LeO.ite ?_ ?_)
   | (with_reducible refine LeO.bind ?_ (fun _ => ?_))
   | exact LeO.none _
   | refine LeO.ite ?_ ?_
   | refine LeO.bind ?_ (fun _ => ?_)
  ·intro y0 y1 y2 y3 y4 y5 y6 y7 y8
   unfold laws_FnPlacesAndLasts.j2
   repeat' first
   | (with_reducible exact ih5 _ _ _ _ _ _ _ _ _ _)
   | (with_reducible exact LeO.refl _)
   | (with_reducible exact LeO.none _)
   | (with_reducible refine LeO.ite ?_ ?_)
   | (with_reducible refine LeO.bind ?_ (fun _ => ?_))
   | exact LeO.none _
   | refine LeO.ite ?_ ?_
   | refine LeO.bind ?_ (fun _ => ?_)
  ·intro y0 y1 y2 y3 y4 y5 y6 y7 y8 y9
   unfold laws_FnPlacesAndLasts.l1
   repeat' first
   | (with_reducible exact ih3 _ _ _ _ _ _ _ _)
   | (with_reducible exact ih5 _ _ _ _ _ _ _ _ _ _)
   | (with_reducible exact impl_PlaceWinner.mono _ _ _ _ _)
   | (with_reducible exact LeO.refl _)
   | (with_reducible exact LeO.none _)
   | (with_reducible refine LeO.ite ?_ ?_)
   | (with_reducible refine LeO.bind ?_ (fun _ => ?_))
   | exact LeO.none _
   | refine LeO.ite ?_ ?_
   | refine LeO.bind ?_ (fun _ => ?_)
theorem laws_FnPlacesAndLasts.mono : ∀ a0 a1 k, LeO (laws_FnPlacesAndLasts.f k a0 a1) (laws_FnPlacesAndLasts.f (k + 1) a0 a1) := by
 intro a0 a1 k
 obtain ⟨ih0, ih1, ih2, ih3, ih4, ih5⟩ := laws_FnPlacesAndLasts.mono_l k
 unfold laws_FnPlacesAndLasts.f
 repeat' first
  | (with_reducible exact ih0 _ _ _ _ _ _ _ _ _)
  | (with_reducible exact impl_GoodPlaces.mono _ _ _ _ _)
  | (with_reducible exact impl_PlaceWinner.mono _ _ _ _ _)
  | (with_reducible exact impl_PlacesWon.mono _ _ _ _)
  | (with_reducible exact laws_nHas.mono _ _ _)
  | (with_reducible exact laws_nSame.mono _ _ _)
  | (with_reducible exact spec_GoodPlaces.mono _ _ _ _ _)
  | (with_reducible exact spec_PlaceWinner.mono _ _ _ _ _)
  | (with_reducible exact spec_PlacesWon.mono _ _ _ _)
  | (with_reducible exact LeO.refl _)
  | (with_reducible exact LeO.none _)
  | (with_reducible refine LeO.ite ?_ ?_)
  | (with_reducible refine LeO.bind ?_ (fun _ => ?_))
  | exact LeO.none _
  | refine LeO.ite ?_ ?_
  | refine LeO.bind ?_ (fun _ => ?_)
set_option maxHeartbeats 8000000 in
set_option maxRecDepth 100000 in
theorem laws_FnPlacesAndLasts.calls (k : Nat) (A0 : Option Addr) (c0 : Nat) (l0 : List Int) (A1 : Option Addr) (c1 : Nat) (l1 : List Int) (r : Bool) (w : World) (hr0 : Kd.C (Kd.int .u8) w A0 l0.length l0) (hc0 : l0.length ≤ c0) (hr1 : Kd.C (Kd.int .u8) w A1 l1.length l1) (hc1 : l1.length ≤ c1) (h : laws_FnPlacesAndLasts.f k l0 l1 = some r) :
 Calls Try.prog 3 #[.slice A0 l0.length c0, .slice A1 l1.length c1] w fun e w' => e = .returned (.bool r) ∧ Below w.heap.size w w' := by
 have hu35 := Try.underlying35
 have HR0 := Aside0.mk hr0
 have HC0 := Aside0.mk hc0
 clear hr0 hc0
 have HR1 := Aside0.mk hr1
 have HC1 := Aside0.mk hc1
 clear hr1 hc1
 have HB := Aside0.mk (Below.refl w.heap.size w)
 have H : ((laws_big.f l0 l1).bind fun t506 => (if t506 = true then (some true) else ((spec_DrawPlaceWinner.f l0).bind fun bt507 => ((impl_PlaceWinner.f k bt507.1 bt507.2.1 bt507.2.2.1 bt507.2.2.2).bind fun bt511 => ((spec_PlaceWinner.f k bt507.1 bt507.2.1 bt507.2.2.1 bt507.2.2.2).bind fun bt513 => ((impl_GoodPlaces.f k bt507.1 bt507.2.1 bt507.2.2.1 bt507.2.2.2).bind fun bt515 => ((spec_GoodPlaces.f k bt507.1 bt507.2.1 bt507.2.2.1 bt507.2.2.2).bind fun bt519 => ((impl_PlacesWon.f k bt507.1 bt507.2.2.1 bt507.2.2.2).bind fun bt523 => ((spec_PlacesWon.f k bt507.1 bt507.2.2.1 bt507.2.2.2).bind fun bt527 => (if (bt511.2 != bt513.2) = true then (laws_FnPlacesAndLasts.j0 k l1 bt507.1 bt507.2.1 bt507.2.2.1 bt507.2.2.2 bt511.1 bt511.2 bt515.1 true) else (if (bt511.1 != bt513.1) = true then (laws_FnPlacesAndLasts.j0 k l1 bt507.1 bt507.2.1 bt507.2.2.1 bt507.2.2.2 bt511.1 bt511.2 bt515.1 true) else (if (bt515.2 != bt519.2) = true then (laws_FnPlacesAndLasts.j0 k l1 bt507.1 bt507.2.1 bt507.2.2.1 bt507.2.2.2 bt511.1 bt511.2 bt515.1 true) else ((laws_nSame.f k bt515.1 bt519.1).bind fun t531 => (if t531 = true then (if (bt523.2 != bt527.2) = true then (laws_FnPlacesAndLasts.j0 k l1 bt507.1 bt507.2.1 bt507.2.2.1 bt507.2.2.2 bt511.1 bt511.2 bt515.1 true) else ((laws_nSame.f k bt523.1 bt527.1).bind fun t532 => (if t532 = true then (if (bt515.2 != bt511.2) = true then (laws_FnPlacesAndLasts.j0 k l1 bt507.1 bt507.2.1 bt507.2.2.1 bt507.2.2.2 bt511.1 bt511.2 bt515.1 true) else (if bt511.2 = true then (if bt523.2 = true then ((laws_nHas.f k bt523.1 bt507.2.1).bind fun t533 => (laws_FnPlacesAndLasts.j0 k l1 bt507.1 bt507.2.1 bt507.2.2.1 bt507.2.2.2 bt511.1 bt511.2 bt515.1 (bt511.1 != t533))) else (laws_FnPlacesAndLasts.j0 k l1 bt507.1 bt507.2.1 bt507.2.2.1 bt507.2.2.2 bt511.1 bt511.2 bt515.1 true)) else (laws_FnPlacesAndLasts.j0 k l1 bt507.1 bt507.2.1 bt507.2.2.1 bt507.2.2.2 bt511.1 bt511.2 bt515.1 false))) else (laws_FnPlacesAndLasts.j0 k l1 bt507.1 bt507.2.1 bt507.2.2.1 bt507.2.2.2 bt511.1 bt511.2 bt515.1 true)))) else (laws_FnPlacesAndLasts.j0 k l1 bt507.1 bt507.2.1 bt507.2.2.1 bt507.2.2.2 bt511.1 bt511.2 bt515.1 true))))))))))))))) = some r := h
 clear h
 replace H := Option.bind_eq_some_iff.mp H
 obtain ⟨t506, A30, H⟩ := H
 (try dsimp only at H)
 have A3 := Aside0.mk A30
 clear A30
 by_cases c4 : t506 = true
 ·subst c4
  rw [if_pos rfl] at H
  obtain rfl := Option.some.inj H
  go_enter Try.func3, Try.ntmps3
  go_wp2_with (first | ((with_reducible refine gate_callee (f := 4) rfl ?_); refine gl_ (some 48) rfl rfl Try.func4 (by kernel_rfl) rfl #[.slice A0 l0.length c0, .slice A1 l1.length c1] rfl ?_; (with_reducible refine (laws_big.calls _ _ l0 _ _ l1 true _ ?side1 ?side2 ?side3 ?side4 A3.out).mono ?_); (case side1 => repeat (first | exact HR0.out | (with_reducible refine Kd.C_alloc ?_ _) | (with_reducible refine Kd.C_drewN ?_ _) | (with_reducible refine Kd.C_drew ?_))); (case side2 => exact HC0.out); (case side3 => repeat (first | exact HR1.out | (with_reducible refine Kd.C_alloc ?_ _) | (with_reducible refine Kd.C_drewN ?_ _) | (with_reducible refine Kd.C_drew ?_))); (case side4 => exact HC1.out); rintro e w' ⟨rfl, ⟨nd, rfl⟩⟩; refine ⟨_, rfl, ?_⟩))
  go_ret
  exact ⟨by first | rfl | (simp [errW_none, errW_some] <;> rfl) | (simp [*, errW_none, errW_some] <;> rfl), Bl_ HB⟩
 replace c4 := Bool.eq_false_iff.mpr c4
 subst c4
 rw [if_neg (show ¬ (false = true) by decide)] at H
 replace H := Option.bind_eq_some_iff.mp H
 obtain ⟨⟨t507, t508, t509, t510⟩, A50, H⟩ := H
 (try dsimp only at H)
 have A5 := Aside0.mk A50
 clear A50
 replace H := Option.bind_eq_some_iff.mp H
 obtain ⟨⟨t511, t512⟩, A60, H⟩ := H
 (try dsimp only at H)
 have A6 := Aside0.mk A60
 clear A60
 replace H := Option.bind_eq_some_iff.mp H
 obtain ⟨⟨t513, t514⟩, A70, H⟩ := H
 (try dsimp only at H)
 have A7 := Aside0.mk A70
 clear A70
 replace H := Option.bind_eq_some_iff.mp H
 obtain ⟨⟨t515, t516⟩, A80, H⟩ := H
 (try dsimp only at H)
 have A8 := Aside0.mk A80
 clear A80
 replace H := Option.bind_eq_some_iff.mp H
 obtain ⟨⟨t519, t520⟩, A90, H⟩ := H
 (try dsimp only at H)
 have A9 := Aside0.mk A90
 clear A90
 replace H := Option.bind_eq_some_iff.mp H
 obtain ⟨⟨t523, t524⟩, A100, H⟩ := H
 (try dsimp only at H)
 have A10 := Aside0.mk A100
 clear A100
 replace H := Option.bind_eq_some_iff.mp H
 obtain ⟨⟨t527, t528⟩, A110, H⟩ := H
 (try dsimp only at H)
 have A11 := Aside0.mk A110
 clear A110
 have HC12 := Aside0.mk H
 clear H
 go_enter Try.func3, Try.ntmps3
 go_upto_region 10 with (first | ((with_reducible refine gate_callee (f := 4) rfl ?_); refine gl_ (some 48) rfl rfl Try.func4 (by kernel_rfl) rfl #[.slice A0 l0.length c0, .slice A1 l1.length c1] rfl ?_; (with_reducible refine (laws_big.calls _ _ l0 _ _ l1 false _ ?side1 ?side2 ?side3 ?side4 A3.out).mono ?_); (case side1 => repeat (first | exact HR0.out | (with_reducible refine Kd.C_alloc ?_ _) | (with_reducible refine Kd.C_drewN ?_ _) | (with_reducible refine Kd.C_drew ?_))); (case side2 => exact HC0.out); (case side3 => repeat (first | exact HR1.out | (with_reducible refine Kd.C_alloc ?_ _) | (with_reducible refine Kd.C_drewN ?_ _) | (with_reducible refine Kd.C_drew ?_))); (case side4 => exact HC1.out); rintro e w' ⟨rfl, ⟨nd, rfl⟩⟩; refine ⟨_, rfl, ?_⟩) | ((with_reducible refine gate_callee (f := 5) rfl ?_); refine gl_ (some 51) rfl rfl Try.func5 (by kernel_rfl) rfl #[.slice A0 l0.length c0] rfl ?_; (with_reducible refine (spec_DrawPlaceWinner.calls _ _ l0 t507 t508 t509 t510 _ ?side1 ?side2 A5.out).mono ?_); (case side1 => repeat (first | exact HR0.out | (with_reducible refine Kd.C_alloc ?_ _) | (with_reducible refine Kd.C_drewN ?_ _) | (with_reducible refine Kd.C_drew ?_))); (case side2 => exact HC0.out); rintro e w13 ⟨rfl, hb⟩; refine ⟨_, rfl, ?_⟩; replace HB := Aside0.mk (below_step (Bl_ HB) hb); (try clear hb); (try clear hb2); (try clear hk); (try clear hi)) | ((with_reducible refine gate_callee (f := 6) rfl ?_); refine gl_ (some 61) rfl rfl Try.func6 (by kernel_rfl) rfl #[.int .i64 t507, .int .i64 t508, .int .i64 t509, .int .i64 t510] rfl ?_; (with_reducible refine (impl_PlaceWinner.calls k t507 t508 t509 t510 t511 t512 _ A6.out).mono ?_); rintro e w' ⟨rfl, ⟨nd, rfl⟩⟩; refine ⟨_, rfl, ?_⟩) | ((with_reducible refine gate_callee (f := 7) rfl ?_); refine gl_ (some 69) rfl rfl Try.func7 (by kernel_rfl) rfl #[.int .i64 t507, .int .i64 t508, .int .i64 t509, .int .i64 t510] rfl ?_; (with_reducible refine (spec_PlaceWinner.calls k t507 t508 t509 t510 t513 t514 _ A7.out).mono ?_); rintro e w14 ⟨rfl, hb⟩; refine ⟨_, rfl, ?_⟩; replace HB := Aside0.mk (below_step (Bl_ HB) hb); (try clear hb); (try clear hb2); (try clear hk); (try clear hi)) | ((with_reducible refine gate_callee (f := 8) rfl ?_); refine gl_ (some 77) rfl rfl Try.func8 (by kernel_rfl) rfl #[.int .i64 t507, .int .i64 t508, .int .i64 t509, .int .i64 t510] rfl ?_; (with_reducible refine (impl_GoodPlaces.calls k t507 t508 t509 t510 t515 t516 _ A8.out).mono ?_); rintro e w15 ⟨v517, rfl, ho0, hb⟩; refine ⟨_, rfl, ?_⟩; have HO518 := Aside0.mk (Kd.R_lower ho0 (below_size (Bl_ HB))); replace HB := Aside0.mk (below_step (Bl_ HB) hb); (try clear hb); (try clear hb2); (try clear hk); (try clear hi); (try clear ho0)) | ((with_reducible refine gate_callee (f := 9) rfl ?_); refine gl_ (some 85) rfl rfl Try.func9 (by kernel_rfl) rfl #[.int .i64 t507, .int .i64 t508, .int .i64 t509, .int .i64 t510] rfl ?_; (with_reducible refine (spec_GoodPlaces.calls k t507 t508 t509 t510 t519 t520 _ A9.out).mono ?_); rintro e w16 ⟨v521, rfl, ho0, hb⟩; refine ⟨_, rfl, ?_⟩; have HO522 := Aside0.mk (Kd.R_lower (Kd.R_new' ho0 (Kd.R_lt (Rl_ HO518.out))) (below_size (Bl_ HB))); replace HO518 := Aside0.mk (Kd.R_elder' (Rl_ HO518.out) (Kd.R_base ho0) hb); replace HB := Aside0.mk (below_step (Bl_ HB) hb); (try clear hb); (try clear hb2); (try clear hk); (try clear hi); (try clear ho0)) | ((with_reducible refine gate_callee (f := 10) rfl ?_); refine gl_ (some 92) rfl rfl Try.func10 (by kernel_rfl) rfl #[.int .i64 t507, .int .i64 t509, .int .i64 t510] rfl ?_; (with_reducible refine (impl_PlacesWon.calls k t507 t509 t510 t523 t524 _ A10.out).mono ?_); rintro e w17 ⟨v525, rfl, ho0, hb⟩; refine ⟨_, rfl, ?_⟩; have HO526 := Aside0.mk (Kd.R_lower (Kd.R_new' (Kd.R_new' ho0 (Kd.R_lt (Rl_ HO518.out))) (Kd.R_lt (Rl_ HO522.out))) (below_size (Bl_ HB))); replace HO518 := Aside0.mk (Kd.R_elder' (Rl_ HO518.out) (Kd.R_base ho0) hb); replace HO522 := Aside0.mk (Kd.R_elder' (Rl_ HO522.out) (Kd.R_base ho0) hb); replace HB := Aside0.mk (below_step (Bl_ HB) hb); (try clear hb); (try clear hb2); (try clear hk); (try clear hi); (try clear ho0)) | ((with_reducible refine gate_callee (f := 11) rfl ?_); refine gl_ (some 99) rfl rfl Try.func11 (by kernel_rfl) rfl #[.int .i64 t507, .int .i64 t509, .int .i64 t510] rfl ?_; (with_reducible refine (spec_PlacesWon.calls k t507 t509 t510 t527 t528 _ A11.out).mono ?_); rintro e w18 ⟨v529, rfl, ho0, hb⟩; refine ⟨_, rfl, ?_⟩; have HO530 := Aside0.mk (Kd.R_lower (Kd.R_new' (Kd.R_new' (Kd.R_new' ho0 (Kd.R_lt (Rl_ HO518.out))) (Kd.R_lt (Rl_ HO522.out))) (Kd.R_lt (Rl_ HO526.out))) (below_size (Bl_ HB))); replace HO518 := Aside0.mk (Kd.R_elder' (Rl_ HO518.out) (Kd.R_base ho0) hb); replace HO522 := Aside0.mk (Kd.R_elder' (Rl_ HO522.out) (Kd.R_base ho0) hb); replace HO526 := Aside0.mk (Kd.R_elder' (Rl_ HO526.out) (Kd.R_base ho0) hb); replace HB := Aside0.mk (below_step (Bl_ HB) hb); (try clear hb); (try clear hb2); (try clear hk); (try clear hi); (try clear ho0)))
 (try simp only [Act.put, List.setIfInBounds_toArray, List.set_cons_zero, List.set_cons_succ])
 go_cut [150] (fun v150 wc => ∃ (kq : Nat) (x150_11 : Bool), v150 = .bool x150_11 ∧ Aside0 (laws_FnPlacesAndLasts.j0 kq l1 t507 t508 t509 t510 t511 t512 t515 x150_11 = some r) ∧ Aside0 (kq ≤ k) ∧ Aside0 (Kd.R (Kd.int .i64) 3 wc w.heap.size (fun _ => True) v517 t515) ∧ Aside0 (Below w.heap.size w wc))
 case first =>
  as_aux_lemma =>
  have H := HC12.out
  clear HC12
  by_cases c19 : (t512 != t514) = true
  ·rw [if_pos c19] at H
   have c19b0 : (t512 != t514) = true := c19
   (try (have c19b1 : decide (t512 = t514) = false := by simpa using c19))
   (try (have c19b2 : (t512 == t514) = false := by simpa using c19))
   (try (have c19b3 : ¬ (t512 = t514) := by simpa using c19))
   clear c19
   (first | rw [c19b0] | (simp only [i64_w, i32_w]; rw [c19b0]) | skip)
   have H' := Aside0.mk H
   clear H
   go_wp2
   go_meet
   case rel => exact ⟨_, (true), (by first | rfl | (simp; done) | (simp [*]; done)), H', ⟨by first | omega | exact Nat.le_refl _⟩, ⟨Rl_ (Kd.R_mono HO518.out (fun _ hk => trivial))⟩, ⟨Bl_ HB⟩⟩
  rw [if_neg c19] at H
  have c19b0 : (t512 != t514) = false := by simpa using c19
  (try (have c19b1 : decide (t512 = t514) = true := by simpa using c19))
  (try (have c19b2 : (t512 == t514) = true := by simpa using c19))
  clear c19
  (first | rw [c19b0] | (simp only [i64_w, i32_w]; rw [c19b0]) | skip)
  by_cases c20 : (t511 != t513) = true
  ·rw [if_pos c20] at H
   have c20b0 : (t511 != t513) = true := c20
   (try (have c20b1 : decide (t511 = t513) = false := by simpa using c20))
   (try (have c20b2 : (t511 == t513) = false := by simpa using c20))
   (try (have c20b3 : ¬ (t511 = t513) := by simpa using c20))
   clear c20
   have H' := Aside0.mk H
   clear H
   go_wp2
   go_meet
   case rel => exact ⟨_, (true), (by first | rfl | (simp; done) | (simp [*]; done)), H', ⟨by first | omega | exact Nat.le_refl _⟩, ⟨Rl_ (Kd.R_mono HO518.out (fun _ hk => trivial))⟩, ⟨Bl_ HB⟩⟩
  rw [if_neg c20] at H
  have c20b0 : (t511 != t513) = false := by simpa using c20
  (try (have c20b1 : decide (t511 = t513) = true := by simpa using c20))
  (try (have c20b2 : (t511 == t513) = true := by simpa using c20))
  clear c20
  by_cases c21 : (t516 != t520) = true
  ·rw [if_pos c21] at H
   have c21b0 : (t516 != t520) = true := c21
   (try (have c21b1 : decide (t516 = t520) = false := by simpa using c21))
   (try (have c21b2 : (t516 == t520) = false := by simpa using c21))
   (try (have c21b3 : ¬ (t516 = t520) := by simpa using c21))
   clear c21
   have H' := Aside0.mk H
   clear H
   go_wp2
   go_meet
   case rel => exact ⟨_, (true), (by first | rfl | (simp; done) | (simp [*]; done)), H', ⟨by first | omega | exact Nat.le_refl _⟩, ⟨Rl_ (Kd.R_mono HO518.out (fun _ hk => trivial))⟩, ⟨Bl_ HB⟩⟩
  as_aux_lemma =>
  rw [if_neg c21] at H
  have c21b0 : (t516 != t520) = false := by simpa using c21
  (try (have c21b1 : decide (t516 = t520) = true := by simpa using c21))
  (try (have c21b2 : (t516 == t520) = true := by simpa using c21))
  clear c21
  replace H := Option.bind_eq_some_iff.mp H
  obtain ⟨t531, A220, H⟩ := H
  (try dsimp only at H)
  have A22 := Aside0.mk A220
  clear A220
  by_cases c23 : t531 = true
  rotate_left
  ·replace c23 := Bool.eq_false_iff.mpr c23
   subst c23
   rw [if_neg (show ¬ (false = true) by decide)] at H
   have H' := Aside0.mk H
   clear H
   obtain ⟨Ao53, co53, eo53⟩ := Kd.R_slice HO518.out
   subst eo53
   obtain ⟨Ao54, co54, eo54⟩ := Kd.R_slice HO522.out
   subst eo54
   go_wp2_with (first | (go_at_call 12; (with_reducible refine (laws_nSame.calls k _ _ t515 _ _ t519 false _ ?side1 ?side2 ?side3 ?side4 A22.out).mono ?_); (case side1 => exact Cl_ (Kd.R_reads' HO518.out).2.2); (case side2 => exact (Kd.R_reads' HO518.out).2.1); (case side3 => exact Cl_ (Kd.R_reads' HO522.out).2.2); (case side4 => exact (Kd.R_reads' HO522.out).2.1); rintro e w' ⟨rfl, ⟨nd, rfl⟩⟩))
   go_meet
   case rel => exact ⟨_, (true), (by first | rfl | (simp; done) | (simp [*]; done)), H', ⟨by first | omega | exact Nat.le_refl _⟩, ⟨Rl_ (Kd.R_mono HO518.out (fun _ hk => trivial))⟩, ⟨Bl_ HB⟩⟩
  subst c23
  rw [if_pos rfl] at H
  by_cases c24 : (t524 != t528) = true
  ·rw [if_pos c24] at H
   have c24b0 : (t524 != t528) = true := c24
   (try (have c24b1 : decide (t524 = t528) = false := by simpa using c24))
   (try (have c24b2 : (t524 == t528) = false := by simpa using c24))
   (try (have c24b3 : ¬ (t524 = t528) := by simpa using c24))
   clear c24
   have H' := Aside0.mk H
   clear H
   obtain ⟨Ao25, co25, eo25⟩ := Kd.R_slice HO518.out
   subst eo25
   obtain ⟨Ao26, co26, eo26⟩ := Kd.R_slice HO522.out
   subst eo26
   go_wp2_with (first | (go_at_call 12; (with_reducible refine (laws_nSame.calls k _ _ t515 _ _ t519 true _ ?side1 ?side2 ?side3 ?side4 A22.out).mono ?_); (case side1 => exact Cl_ (Kd.R_reads' HO518.out).2.2); (case side2 => exact (Kd.R_reads' HO518.out).2.1); (case side3 => exact Cl_ (Kd.R_reads' HO522.out).2.2); (case side4 => exact (Kd.R_reads' HO522.out).2.1); rintro e w' ⟨rfl, ⟨nd, rfl⟩⟩))
   go_meet
   case rel => exact ⟨_, (true), (by first | rfl | (simp; done) | (simp [*]; done)), H', ⟨by first | omega | exact Nat.le_refl _⟩, ⟨Rl_ (Kd.R_mono HO518.out (fun _ hk => trivial))⟩, ⟨Bl_ HB⟩⟩
  rw [if_neg c24] at H
  have c24b0 : (t524 != t528) = false := by simpa using c24
  (try (have c24b1 : decide (t524 = t528) = true := by simpa using c24))
  (try (have c24b2 : (t524 == t528) = true := by simpa using c24))
  clear c24
  replace H := Option.bind_eq_some_iff.mp H
  obtain ⟨t532, A270, H⟩ := H
  (try dsimp only at H)
  have A27 := Aside0.mk A270
  clear A270
  by_cases c28 : t532 = true
  rotate_left
  ·replace c28 := Bool.eq_false_iff.mpr c28
   subst c28
   rw [if_neg (show ¬ (false = true) by decide)] at H
   have H' := Aside0.mk H
   clear H
   obtain ⟨Ao49, co49, eo49⟩ := Kd.R_slice HO518.out
   subst eo49
   obtain ⟨Ao50, co50, eo50⟩ := Kd.R_slice HO522.out
   subst eo50
   go_wp2_with (first | (go_at_call 12; (with_reducible refine (laws_nSame.calls k _ _ t515 _ _ t519 true _ ?side1 ?side2 ?side3 ?side4 A22.out).mono ?_); (case side1 => exact Cl_ (Kd.R_reads' HO518.out).2.2); (case side2 => exact (Kd.R_reads' HO518.out).2.1); (case side3 => exact Cl_ (Kd.R_reads' HO522.out).2.2); (case side4 => exact (Kd.R_reads' HO522.out).2.1); rintro e w' ⟨rfl, ⟨nd, rfl⟩⟩; obtain ⟨Ao51, co51, eo51⟩ := Kd.R_slice HO526.out; subst eo51; obtain ⟨Ao52, co52, eo52⟩ := Kd.R_slice HO530.out; subst eo52) | (go_at_call 12; (with_reducible refine (laws_nSame.calls k _ _ t523 _ _ t527 false _ ?side1 ?side2 ?side3 ?side4 A27.out).mono ?_); (case side1 => exact Cl_ (Kd.R_reads' HO526.out).2.2); (case side2 => exact (Kd.R_reads' HO526.out).2.1); (case side3 => exact Cl_ (Kd.R_reads' HO530.out).2.2); (case side4 => exact (Kd.R_reads' HO530.out).2.1); rintro e w' ⟨rfl, ⟨nd, rfl⟩⟩))
   go_meet
   case rel => exact ⟨_, (true), (by first | rfl | (simp; done) | (simp [*]; done)), H', ⟨by first | omega | exact Nat.le_refl _⟩, ⟨Rl_ (Kd.R_mono HO518.out (fun _ hk => trivial))⟩, ⟨Bl_ HB⟩⟩
  as_aux_lemma =>
  subst c28
  rw [if_pos rfl] at H
  by_cases c29 : (t516 != t512) = true
  ·rw [if_pos c29] at H
   have c29b0 : (t516 != t512) = true := c29
   (try (have c29b1 : decide (t516 = t512) = false := by simpa using c29))
   (try (have c29b2 : (t516 == t512) = false := by simpa using c29))
   (try (have c29b3 : ¬ (t516 = t512) := by simpa using c29))
   clear c29
   have H' := Aside0.mk H
   clear H
   obtain ⟨Ao30, co30, eo30⟩ := Kd.R_slice HO518.out
   subst eo30
   obtain ⟨Ao31, co31, eo31⟩ := Kd.R_slice HO522.out
   subst eo31
   go_wp2_with (first | (go_at_call 12; (with_reducible refine (laws_nSame.calls k _ _ t515 _ _ t519 true _ ?side1 ?side2 ?side3 ?side4 A22.out).mono ?_); (case side1 => exact Cl_ (Kd.R_reads' HO518.out).2.2); (case side2 => exact (Kd.R_reads' HO518.out).2.1); (case side3 => exact Cl_ (Kd.R_reads' HO522.out).2.2); (case side4 => exact (Kd.R_reads' HO522.out).2.1); rintro e w' ⟨rfl, ⟨nd, rfl⟩⟩; obtain ⟨Ao32, co32, eo32⟩ := Kd.R_slice HO526.out; subst eo32; obtain ⟨Ao33, co33, eo33⟩ := Kd.R_slice HO530.out; subst eo33) | (go_at_call 12; (with_reducible refine (laws_nSame.calls k _ _ t523 _ _ t527 true _ ?side1 ?side2 ?side3 ?side4 A27.out).mono ?_); (case side1 => exact Cl_ (Kd.R_reads' HO526.out).2.2); (case side2 => exact (Kd.R_reads' HO526.out).2.1); (case side3 => exact Cl_ (Kd.R_reads' HO530.out).2.2); (case side4 => exact (Kd.R_reads' HO530.out).2.1); rintro e w' ⟨rfl, ⟨nd, rfl⟩⟩))
   go_meet
   case rel => exact ⟨_, (true), (by first | rfl | (simp; done) | (simp [*]; done)), H', ⟨by first | omega | exact Nat.le_refl _⟩, ⟨Rl_ (Kd.R_mono HO518.out (fun _ hk => trivial))⟩, ⟨Bl_ HB⟩⟩
  rw [if_neg c29] at H
  have c29b0 : (t516 != t512) = false := by simpa using c29
  (try (have c29b1 : decide (t516 = t512) = true := by simpa using c29))
  (try (have c29b2 : (t516 == t512) = true := by simpa using c29))
  clear c29
  by_cases c34 : t512 = true
  rotate_left
  ·replace c34 := Bool.eq_false_iff.mpr c34
   subst c34
   rw [if_neg (show ¬ (false = true) by decide)] at H
   have H' := Aside0.mk H
   clear H
   obtain ⟨Ao45, co45, eo45⟩ := Kd.R_slice HO518.out
   subst eo45
   obtain ⟨Ao46, co46, eo46⟩ := Kd.R_slice HO522.out
   subst eo46
   go_wp2_with (first | (go_at_call 12; (with_reducible refine (laws_nSame.calls k _ _ t515 _ _ t519 true _ ?side1 ?side2 ?side3 ?side4 A22.out).mono ?_); (case side1 => exact Cl_ (Kd.R_reads' HO518.out).2.2); (case side2 => exact (Kd.R_reads' HO518.out).2.1); (case side3 => exact Cl_ (Kd.R_reads' HO522.out).2.2); (case side4 => exact (Kd.R_reads' HO522.out).2.1); rintro e w' ⟨rfl, ⟨nd, rfl⟩⟩; obtain ⟨Ao47, co47, eo47⟩ := Kd.R_slice HO526.out; subst eo47; obtain ⟨Ao48, co48, eo48⟩ := Kd.R_slice HO530.out; subst eo48) | (go_at_call 12; (with_reducible refine (laws_nSame.calls k _ _ t523 _ _ t527 true _ ?side1 ?side2 ?side3 ?side4 A27.out).mono ?_); (case side1 => exact Cl_ (Kd.R_reads' HO526.out).2.2); (case side2 => exact (Kd.R_reads' HO526.out).2.1); (case side3 => exact Cl_ (Kd.R_reads' HO530.out).2.2); (case side4 => exact (Kd.R_reads' HO530.out).2.1); rintro e w' ⟨rfl, ⟨nd, rfl⟩⟩))
   go_meet
   case rel => exact ⟨_, (false), (by first | rfl | (simp; done) | (simp [*]; done)), H', ⟨by first | omega | exact Nat.le_refl _⟩, ⟨Rl_ (Kd.R_mono HO518.out (fun _ hk => trivial))⟩, ⟨Bl_ HB⟩⟩
  subst c34
  rw [if_pos rfl] at H
  by_cases c35 : t524 = true
  rotate_left
  ·replace c35 := Bool.eq_false_iff.mpr c35
   subst c35
   rw [if_neg (show ¬ (false = true) by decide)] at H
   have H' := Aside0.mk H
   clear H
   obtain ⟨Ao41, co41, eo41⟩ := Kd.R_slice HO518.out
   subst eo41
   obtain ⟨Ao42, co42, eo42⟩ := Kd.R_slice HO522.out
   subst eo42
   go_wp2_with (first | (go_at_call 12; (with_reducible refine (laws_nSame.calls k _ _ t515 _ _ t519 true _ ?side1 ?side2 ?side3 ?side4 A22.out).mono ?_); (case side1 => exact Cl_ (Kd.R_reads' HO518.out).2.2); (case side2 => exact (Kd.R_reads' HO518.out).2.1); (case side3 => exact Cl_ (Kd.R_reads' HO522.out).2.2); (case side4 => exact (Kd.R_reads' HO522.out).2.1); rintro e w' ⟨rfl, ⟨nd, rfl⟩⟩; obtain ⟨Ao43, co43, eo43⟩ := Kd.R_slice HO526.out; subst eo43; obtain ⟨Ao44, co44, eo44⟩ := Kd.R_slice HO530.out; subst eo44) | (go_at_call 12; (with_reducible refine (laws_nSame.calls k _ _ t523 _ _ t527 true _ ?side1 ?side2 ?side3 ?side4 A27.out).mono ?_); (case side1 => exact Cl_ (Kd.R_reads' HO526.out).2.2); (case side2 => exact (Kd.R_reads' HO526.out).2.1); (case side3 => exact Cl_ (Kd.R_reads' HO530.out).2.2); (case side4 => exact (Kd.R_reads' HO530.out).2.1); rintro e w' ⟨rfl, ⟨nd, rfl⟩⟩))
   go_meet
   case rel => exact ⟨_, (true), (by first | rfl | (simp; done) | (simp [*]; done)), H', ⟨by first | omega | exact Nat.le_refl _⟩, ⟨Rl_ (Kd.R_mono HO518.out (fun _ hk => trivial))⟩, ⟨Bl_ HB⟩⟩
  subst c35
  rw [if_pos rfl] at H
  replace H := Option.bind_eq_some_iff.mp H
  obtain ⟨t533, A360, H⟩ := H
  (try dsimp only at H)
  have A36 := Aside0.mk A360
  clear A360
  have H' := Aside0.mk H
  clear H
  obtain ⟨Ao37, co37, eo37⟩ := Kd.R_slice HO518.out
  subst eo37
  obtain ⟨Ao38, co38, eo38⟩ := Kd.R_slice HO522.out
  subst eo38
  go_wp2_with (first | (go_at_call 12; (with_reducible refine (laws_nSame.calls k _ _ t515 _ _ t519 true _ ?side1 ?side2 ?side3 ?side4 A22.out).mono ?_); (case side1 => exact Cl_ (Kd.R_reads' HO518.out).2.2); (case side2 => exact (Kd.R_reads' HO518.out).2.1); (case side3 => exact Cl_ (Kd.R_reads' HO522.out).2.2); (case side4 => exact (Kd.R_reads' HO522.out).2.1); rintro e w' ⟨rfl, ⟨nd, rfl⟩⟩; obtain ⟨Ao39, co39, eo39⟩ := Kd.R_slice HO526.out; subst eo39; obtain ⟨Ao40, co40, eo40⟩ := Kd.R_slice HO530.out; subst eo40) | (go_at_call 12; (with_reducible refine (laws_nSame.calls k _ _ t523 _ _ t527 true _ ?side1 ?side2 ?side3 ?side4 A27.out).mono ?_); (case side1 => exact Cl_ (Kd.R_reads' HO526.out).2.2); (case side2 => exact (Kd.R_reads' HO526.out).2.1); (case side3 => exact Cl_ (Kd.R_reads' HO530.out).2.2); (case side4 => exact (Kd.R_reads' HO530.out).2.1); rintro e w' ⟨rfl, ⟨nd, rfl⟩⟩) | (go_at_call 13; (with_reducible refine (laws_nHas.calls k _ _ t523 t508 t533 _ ?side1 ?side2 A36.out).mono ?_); (case side1 => exact Cl_ (Kd.R_reads' HO526.out).2.2); (case side2 => exact (Kd.R_reads' HO526.out).2.1); rintro e w' ⟨rfl, ⟨nd, rfl⟩⟩))
  go_meet
  case rel => exact ⟨_, ((t511 != t533)), (by first | rfl | (simp; done) | (simp [*]; done)), H', ⟨by first | omega | exact Nat.le_refl _⟩, ⟨Rl_ (Kd.R_mono HO518.out (fun _ hk => trivial))⟩, ⟨Bl_ HB⟩⟩
 case rest =>
  as_aux_lemma =>
  clear HC12
  try clear c1
  try clear c2
  try clear p2
  try clear c3
  try clear c4
  try clear c5
  try clear c6
  try clear c7
  try clear c8
  try clear c9
  try clear c10
  try clear c11
  try clear c19
  try clear c19b0
  try clear c19b1
  try clear c19b2
  try clear c20
  try clear c20b0
  try clear c20b1
  try clear c20b2
  try clear c21
  try clear c21b0
  try clear c21b1
  try clear c21b2
  try clear c23
  try clear c24
  try clear c24b0
  try clear c24b1
  try clear c24b2
  try clear c28
  try clear c29
  try clear c29b0
  try clear c29b1
  try clear c29b2
  try clear c34
  try clear c35
  obtain ⟨kq, x150_11, rfl, HA, HJ11, HO_13, HB⟩ := hcut
  cases kq with
  | zero => exact absurd HA.out (by simp [laws_FnPlacesAndLasts.j0])
  | succ kj11 =>
   have H := HA.out
   clear HA
   simp only [laws_FnPlacesAndLasts.j0] at H
   by_cases c55 : x150_11 = true
   ·subst c55
    rw [if_pos rfl] at H
    exact absurd H (by simp)
   replace c55 := Bool.eq_false_iff.mpr c55
   subst c55
   rw [if_neg (show ¬ (false = true) by decide)] at H
   have HC56 := Aside0.mk H
   clear H
   go_upto_if 151 with (fail)
   go_cut [] (fun wc => ∃ (kq : Nat), Aside0 (laws_FnPlacesAndLasts.j4 kq l1 = some r) ∧ Aside0 (kq ≤ kj11) ∧ Aside0 (Below w.heap.size w wc))
   case first =>
    as_aux_lemma =>
    have H := HC56.out
    clear HC56
    by_cases c57 : t512 = true
    rotate_left
    ·replace c57 := Bool.eq_false_iff.mpr c57
     subst c57
     rw [if_neg (show ¬ (false = true) by decide)] at H
     have H' := Aside0.mk H
     clear H
     go_wp2
     go_meet
     case rel => exact ⟨_, H', ⟨by have := HJ11.out; first | omega | exact Nat.le_refl _⟩, ⟨Bl_ HB⟩⟩
    subst c57
    rw [if_pos rfl] at H
    by_cases c58 : t510 = 0
    ·as_aux_lemma =>
     rw [if_pos c58] at H
     have c58b0 : (t510 == 0) = true := beq_iff_eq.mpr c58
     have c58b1 : (t510 != 0) = false := bne_eq_false_iff_eq.mpr c58
     clear c58
     (first | rw [c58b0] | (simp only [i64_w, i32_w]; rw [c58b0]) | skip)
     by_cases c59 : (t511 != (t508 == t509)) = true
     ·rw [if_pos c59] at H
      exact absurd H (by simp)
     rw [if_neg c59] at H
     have c59b0 : (t511 != (t508 == t509)) = false := by simpa using c59
     (try (have c59b1 : decide (t511 = (t508 == t509)) = true := by simpa using c59))
     (try (have c59b2 : (t511 == (t508 == t509)) = true := by simpa using c59))
     clear c59
     by_cases c60 : (t515.length : Int) = 0
     rotate_left
     ·rw [if_neg c60] at H
      exact absurd H (by simp)
     rw [if_pos c60] at H
     have c60b0 : ((t515.length : Int) == 0) = true := beq_iff_eq.mpr c60
     have c60b1 : ((t515.length : Int) != 0) = false := bne_eq_false_iff_eq.mpr c60
     clear c60
     by_cases c61 : t510 > 0
     ·as_aux_lemma =>
      rw [if_pos c61] at H
      have c61b0 : decide (0 < t510) = true := decide_eq_true c61
      clear c61
      by_cases c62 : (t511 != (decide ((t515.length : Int) > 0))) = true
      ·rw [if_pos c62] at H
       exact absurd H (by simp)
      rw [if_neg c62] at H
      have c62b0 : (t511 != (decide ((t515.length : Int) > 0))) = false := by simpa using c62
      (try (have c62q : (t511 != (decide (0 < t515.length))) = false := by simpa using c62b0))
      (try (have c62r : (t511 == (decide (0 < t515.length))) = true := by simpa using c62b0))
      (try (have c62b1 : decide (t511 = (decide ((t515.length : Int) > 0))) = true := by simpa using c62))
      (try (have c62b2 : (t511 == (decide ((t515.length : Int) > 0))) = true := by simpa using c62))
      clear c62
      by_cases c63 : t510 ≥ 2
      rotate_left
      ·rw [if_neg c63] at H
       have c63b0 : decide (2 ≤ t510) = false := decide_eq_false c63
       clear c63
       have H' := Aside0.mk H
       clear H
       obtain ⟨Ao83, co83, eo83⟩ := Kd.R_slice HO_13.out
       subst eo83
       go_wp2
       go_meet
       case rel => exact ⟨_, H', ⟨by have := HJ11.out; first | omega | exact Nat.le_refl _⟩, ⟨Bl_ HB⟩⟩
      rw [if_pos c63] at H
      have c63b0 : decide (2 ≤ t510) = true := decide_eq_true c63
      clear c63
      have H' := Aside0.mk H
      clear H
      obtain ⟨Ao64, co64, eo64⟩ := Kd.R_slice HO_13.out
      subst eo64
      go_wp2
      go_loopg [181] kj11 (fun kq v181 w' => ∃ (x181_2 : Int), v181 = .int .i64 x181_2 ∧ Aside0 (laws_FnPlacesAndLasts.l0 kq l1 t507 t508 t509 t510 t515 (t515.length : Int) x181_2 = some r) ∧ Aside0 (kq ≤ kj11) ∧ Aside0 (Kd.R (Kd.int .i64) 3 w' w.heap.size (fun _ => True) (.slice Ao64 t515.length co64) t515) ∧ Aside0 (Below w.heap.size w w'))
      case atStart => exact ⟨(0), (by first | rfl | (simp; done) | (simp [*]; done)), H', ⟨Nat.le_refl _⟩, ⟨Rl_ HO_13.out⟩, ⟨Bl_ HB⟩⟩
      case round =>
       as_aux_lemma =>
       clear H'
       try clear c1
       try clear c2
       try clear p2
       try clear c3
       try clear c4
       try clear c5
       try clear c6
       try clear c7
       try clear c8
       try clear c9
       try clear c10
       try clear c11
       try clear c19
       try clear c19b0
       try clear c19b1
       try clear c19b2
       try clear c20
       try clear c20b0
       try clear c20b1
       try clear c20b2
       try clear c21
       try clear c21b0
       try clear c21b1
       try clear c21b2
       try clear c23
       try clear c24
       try clear c24b0
       try clear c24b1
       try clear c24b2
       try clear c28
       try clear c29
       try clear c29b0
       try clear c29b1
       try clear c29b2
       try clear c34
       try clear c35
       try clear c55
       try clear c57
       try clear c58
       try clear c58b0
       try clear c58b1
       try clear c59
       try clear c59b0
       try clear c59b1
       try clear c59b2
       try clear c60
       try clear c60b0
       try clear c60b1
       try clear c61
       try clear c61b0
       try clear c62
       try clear c62b0
       try clear c62b1
       try clear c62b2
       try clear c63
       try clear c63b0
       try clear p2
       obtain ⟨x181_2, rfl, HA, HK2, HO_179, HB⟩ := hrel
       cases gk with
       | zero => exact absurd HA.out (by simp [laws_FnPlacesAndLasts.l0])
       | succ k2 =>
        have H := HA.out
        clear HA
        simp only [laws_FnPlacesAndLasts.l0] at H
        by_cases c65 : x181_2 < (t515.length : Int)
        rotate_left
        ·rw [if_neg c65] at H
         have c65b0 : decide (x181_2 < (t515.length : Int)) = false := decide_eq_false c65
         clear c65
         have H' := Aside0.mk H
         clear H
         go_wp2
         go_meet
         case rel => exact ⟨_, H', ⟨by have := HJ11.out; have := HK2.out; first | omega | exact Nat.le_refl _⟩, ⟨Bl_ HB⟩⟩
        rw [if_pos c65] at H
        have c65b0 : decide (x181_2 < (t515.length : Int)) = true := decide_eq_true c65
        clear c65
        by_cases c66 : 0 ≤ x181_2
        rotate_left
        ·rw [if_neg c66] at H
         exact absurd H (by simp)
        rw [if_pos c66] at H
        have c66b0 : decide (0 ≤ x181_2) = true := decide_eq_true c66
        clear c66
        by_cases c67 : x181_2 < (t515.length : Int)
        rotate_left
        ·rw [if_neg c67] at H
         exact absurd H (by simp)
        rw [if_pos c67] at H
        have c67b0 : decide (x181_2 < (t515.length : Int)) = true := decide_eq_true c67
        clear c67
        have HC68 := Aside0.mk H
        clear H
        have p534 : 0 ≤ (x181_2 : Int) := of_decide_eq_true (by first | (with_reducible assumption) | assumption)
        have q534 : x181_2 < (t515.length : Int) := of_decide_eq_true (by first | (with_reducible assumption) | assumption)
        obtain ⟨ad534, e534, hx534_0⟩ := Kd.at_int (Kd.R_reads' HO_179.out).2.2 x181_2 p534 q534
        cases e534
        replace p534 := eq_true p534
        replace q534 := eq_true q534
        go_upto_if 188 with (fail)
        go_cut [23] (fun v23 wc => ∃ (kq : Nat) (x23_67 : Int), v23 = .int .i64 x23_67 ∧ Aside0 (laws_FnPlacesAndLasts.j2 kq l1 t507 t508 t509 t510 x23_67 t515 (t515.length : Int) x181_2 = some r) ∧ Aside0 (kq ≤ k2) ∧ Aside0 (Kd.R (Kd.int .i64) 3 wc w.heap.size (fun _ => True) (.slice (some ad534) t515.length co64) t515) ∧ Aside0 (Below w.heap.size w wc))
        case first =>
         have H := HC68.out
         clear HC68
         by_cases c69 : t508 = (rd t515 x181_2)
         ·rw [if_pos c69] at H
          have c69b0 : (t508 == (rd t515 x181_2)) = true := beq_iff_eq.mpr c69
          have c69b1 : (t508 != (rd t515 x181_2)) = false := bne_eq_false_iff_eq.mpr c69
          clear c69
          (first | rw [c69b0] | (simp only [i64_w, i32_w]; rw [c69b0]) | skip)
          have H' := Aside0.mk H
          clear H
          go_wp2
          go_meet
          case rel => exact ⟨_, (wrap64 ((rd t515 x181_2) + 1)), (by first | rfl | (simp; done) | (simp [*]; done)), H', ⟨by have := HJ11.out; have := HK2.out; first | omega | exact Nat.le_refl _⟩, ⟨Rl_ HO_179.out⟩, ⟨Bl_ HB⟩⟩
         rw [if_neg c69] at H
         have c69b0 : (t508 == (rd t515 x181_2)) = false := beq_eq_false_iff_ne.mpr c69
         have c69b1 : (t508 != (rd t515 x181_2)) = true := bne_iff_ne.mpr c69
         (first | rw [c69b0] | (simp only [i64_w, i32_w]; rw [c69b0]) | skip)
         by_cases c70 : t508 = (wrap64 ((rd t515 x181_2) + 1))
         rotate_left
         ·rw [if_neg c70] at H
          have c70b0 : (t508 == (wrap64 ((rd t515 x181_2) + 1))) = false := beq_eq_false_iff_ne.mpr c70
          have c70b1 : (t508 != (wrap64 ((rd t515 x181_2) + 1))) = true := bne_iff_ne.mpr c70
          have H' := Aside0.mk H
          clear H
          go_wp2
          go_meet
          case rel => exact ⟨_, (t508), (by first | rfl | (simp; done) | (simp [*]; done)), H', ⟨by have := HJ11.out; have := HK2.out; first | omega | exact Nat.le_refl _⟩, ⟨Rl_ HO_179.out⟩, ⟨Bl_ HB⟩⟩
         rw [if_pos c70] at H
         have c70b0 : (t508 == (wrap64 ((rd t515 x181_2) + 1))) = true := beq_iff_eq.mpr c70
         have c70b1 : (t508 != (wrap64 ((rd t515 x181_2) + 1))) = false := bne_eq_false_iff_eq.mpr c70
         clear c70
         have H' := Aside0.mk H
         clear H
         go_wp2
         go_meet
         case rel => exact ⟨_, (rd t515 x181_2), (by first | rfl | (simp; done) | (simp [*]; done)), H', ⟨by have := HJ11.out; have := HK2.out; first | omega | exact Nat.le_refl _⟩, ⟨Rl_ HO_179.out⟩, ⟨Bl_ HB⟩⟩
        case rest =>
         as_aux_lemma =>
         clear HC68
         try clear c1
         try clear c2
         try clear p2
         try clear c3
         try clear c4
         try clear c5
         try clear p5
         try clear q5
         try clear hx5
         try clear c6
         try clear p6
         try clear c7
         try clear c8
         try clear c9
         try clear c10
         try clear c11
         try clear c19
         try clear c19b0
         try clear c19b1
         try clear c19b2
         try clear c20
         try clear c20b0
         try clear c20b1
         try clear c20b2
         try clear c21
         try clear c21b0
         try clear c21b1
         try clear c21b2
         try clear c23
         try clear c24
         try clear c24b0
         try clear c24b1
         try clear c24b2
         try clear c28
         try clear c29
         try clear c29b0
         try clear c29b1
         try clear c29b2
         try clear c34
         try clear c35
         try clear p53
         try clear q53
         try clear hx53
         try clear c55
         try clear c57
         try clear c58
         try clear c58b0
         try clear c58b1
         try clear c59
         try clear c59b0
         try clear c59b1
         try clear c59b2
         try clear c60
         try clear c60b0
         try clear c60b1
         try clear c61
         try clear c61b0
         try clear c62
         try clear c62b0
         try clear c62b1
         try clear c62b2
         try clear c63
         try clear c63b0
         try clear p64
         try clear c65
         try clear c65b0
         try clear c66
         try clear c66b0
         try clear c67
         try clear c67b0
         try clear c69
         try clear c69b0
         try clear c69b1
         try clear c70
         try clear c70b0
         try clear c70b1
         try clear hx534_0
         try clear p2
         try clear p534
         try clear q534
         obtain ⟨kq, x23_67, rfl, HA, HJ67, HO_179, HB⟩ := hcut
         cases kq with
         | zero => exact absurd HA.out (by simp [laws_FnPlacesAndLasts.j2])
         | succ kj67 =>
          have H := HA.out
          clear HA
          simp only [laws_FnPlacesAndLasts.j2] at H
          have H' := Aside0.mk H
          clear H
          go_wp2
          go_loopg [24] kj67 (fun kq v24 w' => ∃ (x24_4 : Int), v24 = .int .i64 x24_4 ∧ Aside0 (laws_FnPlacesAndLasts.l1 kq l1 t507 t508 t509 t510 x23_67 x24_4 t515 (t515.length : Int) x181_2 = some r) ∧ Aside0 (kq ≤ kj67) ∧ Aside0 (Kd.R (Kd.int .i64) 3 w' w.heap.size (fun _ => True) (.slice (some ad534) t515.length co64) t515) ∧ Aside0 (Below w.heap.size w w'))
          case atStart => exact ⟨(0), (by first | rfl | (simp; done) | (simp [*]; done)), H', ⟨Nat.le_refl _⟩, ⟨Rl_ HO_179.out⟩, ⟨Bl_ HB⟩⟩
          case round =>
           as_aux_lemma =>
           clear H'
           try clear c1
           try clear c2
           try clear p2
           try clear c3
           try clear c4
           try clear c5
           try clear p5
           try clear q5
           try clear hx5
           try clear c6
           try clear p6
           try clear c7
           try clear c8
           try clear c9
           try clear c10
           try clear c11
           try clear c19
           try clear c19b0
           try clear c19b1
           try clear c19b2
           try clear c20
           try clear c20b0
           try clear c20b1
           try clear c20b2
           try clear c21
           try clear c21b0
           try clear c21b1
           try clear c21b2
           try clear c23
           try clear c24
           try clear c24b0
           try clear c24b1
           try clear c24b2
           try clear c28
           try clear c29
           try clear c29b0
           try clear c29b1
           try clear c29b2
           try clear c34
           try clear c35
           try clear p53
           try clear q53
           try clear hx53
           try clear c55
           try clear c57
           try clear c58
           try clear c58b0
           try clear c58b1
           try clear c59
           try clear c59b0
           try clear c59b1
           try clear c59b2
           try clear c60
           try clear c60b0
           try clear c60b1
           try clear c61
           try clear c61b0
           try clear c62
           try clear c62b0
           try clear c62b1
           try clear c62b2
           try clear c63
           try clear c63b0
           try clear p64
           try clear c65
           try clear c65b0
           try clear c66
           try clear c66b0
           try clear c67
           try clear c67b0
           try clear c69
           try clear c69b0
           try clear c69b1
           try clear c70
           try clear c70b0
           try clear c70b1
           try clear hx534_0
           try clear p2
           try clear p5
           try clear p53
           try clear p534
           try clear p6
           try clear p64
           try clear q5
           try clear q53
           try clear q534
           obtain ⟨x24_4, rfl, HA, HK4, HO_179, HB⟩ := hrel
           cases gk with
           | zero => exact absurd HA.out (by simp [laws_FnPlacesAndLasts.l1])
           | succ k4 =>
            have H := HA.out
            clear HA
            simp only [laws_FnPlacesAndLasts.l1] at H
            by_cases c71 : x24_4 < (wrap64 (t507 - 1))
            rotate_left
            ·rw [if_neg c71] at H
             have c71b0 : decide (x24_4 < (wrap64 (t507 - 1))) = false := decide_eq_false c71
             clear c71
             have H' := Aside0.mk H
             clear H
             go_wp2
             go_roundg k4
             case measure => have := HJ11.out; have := HK2.out; have := HJ67.out; have := HK4.out; omega
             case rel => exact ⟨(wrap64 (x181_2 + 1)), (by first | rfl | (simp; done) | (simp [*]; done)), H', ⟨by have := HJ11.out; have := HK2.out; have := HJ67.out; have := HK4.out; omega⟩, ⟨Rl_ HO_179.out⟩, ⟨Bl_ HB⟩⟩
            rw [if_pos c71] at H
            have c71b0 : decide (x24_4 < (wrap64 (t507 - 1))) = true := decide_eq_true c71
            clear c71
            by_cases c72 : x23_67 = x24_4
            ·rw [if_pos c72] at H
             have c72b0 : (x23_67 == x24_4) = true := beq_iff_eq.mpr c72
             have c72b1 : (x23_67 != x24_4) = false := bne_eq_false_iff_eq.mpr c72
             clear c72
             replace H := Option.bind_eq_some_iff.mp H
             obtain ⟨⟨t535, t536⟩, A730, H⟩ := H
             (try dsimp only at H)
             have A73 := Aside0.mk A730
             clear A730
             by_cases c74 : t536 = true
             rotate_left
             ·replace c74 := Bool.eq_false_iff.mpr c74
              subst c74
              rw [if_neg (show ¬ (false = true) by decide)] at H
              exact absurd H (by simp)
             subst c74
             rw [if_pos rfl] at H
             by_cases c75 : t535 = true
             rotate_left
             ·replace c75 := Bool.eq_false_iff.mpr c75
              subst c75
              rw [if_neg (show ¬ (false = true) by decide)] at H
              exact absurd H (by simp)
             subst c75
             rw [if_pos rfl] at H
             have H' := Aside0.mk H
             clear H
             go_wp2_with (first | ((with_reducible refine gate_callee (f := 6) rfl ?_); refine gl_ (some 219) rfl rfl Try.func6 (by kernel_rfl) rfl #[.int .i64 t507, .int .i64 (wrap64 (x24_4 + 1)), .int .i64 t509, .int .i64 (wrap64 (t510 - 2))] rfl ?_; (with_reducible refine (impl_PlaceWinner.calls k4 t507 (wrap64 (x24_4 + 1)) t509 (wrap64 (t510 - 2)) true true _ A73.out).mono ?_); rintro e w' ⟨rfl, ⟨nd, rfl⟩⟩; refine ⟨_, rfl, ?_⟩))
             go_roundg k4
             case measure => have := HJ11.out; have := HK2.out; have := HJ67.out; have := HK4.out; omega
             case rel => exact ⟨(wrap64 (x24_4 + 1)), (by first | rfl | (simp; done) | (simp [*]; done)), H', ⟨by have := HJ11.out; have := HK2.out; have := HJ67.out; have := HK4.out; omega⟩, ⟨Rl_ HO_179.out⟩, ⟨Bl_ HB⟩⟩
            as_aux_lemma =>
            rw [if_neg c72] at H
            have c72b0 : (x23_67 == x24_4) = false := beq_eq_false_iff_ne.mpr c72
            have c72b1 : (x23_67 != x24_4) = true := bne_iff_ne.mpr c72
            by_cases c76 : x23_67 = (wrap64 (x24_4 + 1))
            rotate_left
            ·rw [if_neg c76] at H
             have c76b0 : (x23_67 == (wrap64 (x24_4 + 1))) = false := beq_eq_false_iff_ne.mpr c76
             have c76b1 : (x23_67 != (wrap64 (x24_4 + 1))) = true := bne_iff_ne.mpr c76
             replace H := Option.bind_eq_some_iff.mp H
             obtain ⟨⟨t539, t540⟩, A800, H⟩ := H
             (try dsimp only at H)
             have A80 := Aside0.mk A800
             clear A800
             by_cases c81 : t540 = true
             rotate_left
             ·replace c81 := Bool.eq_false_iff.mpr c81
              subst c81
              rw [if_neg (show ¬ (false = true) by decide)] at H
              exact absurd H (by simp)
             subst c81
             rw [if_pos rfl] at H
             by_cases c82 : t539 = true
             rotate_left
             ·replace c82 := Bool.eq_false_iff.mpr c82
              subst c82
              rw [if_neg (show ¬ (false = true) by decide)] at H
              exact absurd H (by simp)
             subst c82
             rw [if_pos rfl] at H
             have H' := Aside0.mk H
             clear H
             go_wp2_with (first | ((with_reducible refine gate_callee (f := 6) rfl ?_); refine gl_ (some 219) rfl rfl Try.func6 (by kernel_rfl) rfl #[.int .i64 t507, .int .i64 x23_67, .int .i64 t509, .int .i64 (wrap64 (t510 - 2))] rfl ?_; (with_reducible refine (impl_PlaceWinner.calls k4 t507 x23_67 t509 (wrap64 (t510 - 2)) true true _ A80.out).mono ?_); rintro e w' ⟨rfl, ⟨nd, rfl⟩⟩; refine ⟨_, rfl, ?_⟩))
             go_roundg k4
             case measure => have := HJ11.out; have := HK2.out; have := HJ67.out; have := HK4.out; omega
             case rel => exact ⟨(wrap64 (x24_4 + 1)), (by first | rfl | (simp; done) | (simp [*]; done)), H', ⟨by have := HJ11.out; have := HK2.out; have := HJ67.out; have := HK4.out; omega⟩, ⟨Rl_ HO_179.out⟩, ⟨Bl_ HB⟩⟩
            rw [if_pos c76] at H
            have c76b0 : (x23_67 == (wrap64 (x24_4 + 1))) = true := beq_iff_eq.mpr c76
            have c76b1 : (x23_67 != (wrap64 (x24_4 + 1))) = false := bne_eq_false_iff_eq.mpr c76
            clear c76
            replace H := Option.bind_eq_some_iff.mp H
            obtain ⟨⟨t537, t538⟩, A770, H⟩ := H
            (try dsimp only at H)
            have A77 := Aside0.mk A770
            clear A770
            by_cases c78 : t538 = true
            rotate_left
            ·replace c78 := Bool.eq_false_iff.mpr c78
             subst c78
             rw [if_neg (show ¬ (false = true) by decide)] at H
             exact absurd H (by simp)
            subst c78
            rw [if_pos rfl] at H
            by_cases c79 : t537 = true
            rotate_left
            ·replace c79 := Bool.eq_false_iff.mpr c79
             subst c79
             rw [if_neg (show ¬ (false = true) by decide)] at H
             exact absurd H (by simp)
            subst c79
            rw [if_pos rfl] at H
            have H' := Aside0.mk H
            clear H
            go_wp2_with (first | ((with_reducible refine gate_callee (f := 6) rfl ?_); refine gl_ (some 219) rfl rfl Try.func6 (by kernel_rfl) rfl #[.int .i64 t507, .int .i64 x24_4, .int .i64 t509, .int .i64 (wrap64 (t510 - 2))] rfl ?_; (with_reducible refine (impl_PlaceWinner.calls k4 t507 x24_4 t509 (wrap64 (t510 - 2)) true true _ A77.out).mono ?_); rintro e w' ⟨rfl, ⟨nd, rfl⟩⟩; refine ⟨_, rfl, ?_⟩))
            go_roundg k4
            case measure => have := HJ11.out; have := HK2.out; have := HJ67.out; have := HK4.out; omega
            case rel => exact ⟨(wrap64 (x24_4 + 1)), (by first | rfl | (simp; done) | (simp [*]; done)), H', ⟨by have := HJ11.out; have := HK2.out; have := HJ67.out; have := HK4.out; omega⟩, ⟨Rl_ HO_179.out⟩, ⟨Bl_ HB⟩⟩
     as_aux_lemma =>
     rw [if_neg c61] at H
     have c61b0 : decide (0 < t510) = false := decide_eq_false c61
     clear c61
     by_cases c84 : t510 ≥ 2
     rotate_left
     ·rw [if_neg c84] at H
      have c84b0 : decide (2 ≤ t510) = false := decide_eq_false c84
      clear c84
      have H' := Aside0.mk H
      clear H
      obtain ⟨Ao104, co104, eo104⟩ := Kd.R_slice HO_13.out
      subst eo104
      go_wp2
      go_meet
      case rel => exact ⟨_, H', ⟨by have := HJ11.out; first | omega | exact Nat.le_refl _⟩, ⟨Bl_ HB⟩⟩
     rw [if_pos c84] at H
     have c84b0 : decide (2 ≤ t510) = true := decide_eq_true c84
     clear c84
     have H' := Aside0.mk H
     clear H
     obtain ⟨Ao85, co85, eo85⟩ := Kd.R_slice HO_13.out
     subst eo85
     go_wp2
     go_loopg [181] kj11 (fun kq v181 w' => ∃ (x181_2 : Int), v181 = .int .i64 x181_2 ∧ Aside0 (laws_FnPlacesAndLasts.l0 kq l1 t507 t508 t509 t510 t515 (t515.length : Int) x181_2 = some r) ∧ Aside0 (kq ≤ kj11) ∧ Aside0 (Kd.R (Kd.int .i64) 3 w' w.heap.size (fun _ => True) (.slice Ao85 t515.length co85) t515) ∧ Aside0 (Below w.heap.size w w'))
     case atStart => exact ⟨(0), (by first | rfl | (simp; done) | (simp [*]; done)), H', ⟨Nat.le_refl _⟩, ⟨Rl_ HO_13.out⟩, ⟨Bl_ HB⟩⟩
     case round =>
      as_aux_lemma =>
      clear H'
      try clear c1
      try clear c2
      try clear p2
      try clear c3
      try clear c4
      try clear c5
      try clear p5
      try clear q5
      try clear hx5
      try clear c6
      try clear p6
      try clear c7
      try clear c8
      try clear c9
      try clear c10
      try clear c11
      try clear c19
      try clear c19b0
      try clear c19b1
      try clear c19b2
      try clear c20
      try clear c20b0
      try clear c20b1
      try clear c20b2
      try clear c21
      try clear c21b0
      try clear c21b1
      try clear c21b2
      try clear c23
      try clear c24
      try clear c24b0
      try clear c24b1
      try clear c24b2
      try clear c28
      try clear c29
      try clear c29b0
      try clear c29b1
      try clear c29b2
      try clear c34
      try clear c35
      try clear p53
      try clear q53
      try clear hx53
      try clear c55
      try clear c57
      try clear c58
      try clear c58b0
      try clear c58b1
      try clear c59
      try clear c59b0
      try clear c59b1
      try clear c59b2
      try clear c60
      try clear c60b0
      try clear c60b1
      try clear c61
      try clear c61b0
      try clear c62
      try clear c62b0
      try clear c62b1
      try clear c62b2
      try clear c63
      try clear c63b0
      try clear p64
      try clear c65
      try clear c65b0
      try clear c66
      try clear c66b0
      try clear c67
      try clear c67b0
      try clear c69
      try clear c69b0
      try clear c69b1
      try clear c70
      try clear c70b0
      try clear c70b1
      try clear c71
      try clear c71b0
      try clear c72
      try clear c72b0
      try clear c72b1
      try clear c74
      try clear c75
      try clear c76
      try clear c76b0
      try clear c76b1
      try clear c78
      try clear c79
      try clear c81
      try clear c82
      try clear c84
      try clear c84b0
      try clear hx534_0
      try clear p2
      try clear p5
      try clear p53
      try clear p534
      try clear p6
      try clear p64
      try clear q5
      try clear q53
      try clear q534
      obtain ⟨x181_2, rfl, HA, HK2, HO_179, HB⟩ := hrel
      cases gk with
      | zero => exact absurd HA.out (by simp [laws_FnPlacesAndLasts.l0])
      | succ k2 =>
       have H := HA.out
       clear HA
       simp only [laws_FnPlacesAndLasts.l0] at H
       by_cases c86 : x181_2 < (t515.length : Int)
       rotate_left
       ·rw [if_neg c86] at H
        have c86b0 : decide (x181_2 < (t515.length : Int)) = false := decide_eq_false c86
        clear c86
        have H' := Aside0.mk H
        clear H
        go_wp2
        go_meet
        case rel => exact ⟨_, H', ⟨by have := HJ11.out; have := HK2.out; first | omega | exact Nat.le_refl _⟩, ⟨Bl_ HB⟩⟩
       rw [if_pos c86] at H
       have c86b0 : decide (x181_2 < (t515.length : Int)) = true := decide_eq_true c86
       clear c86
       by_cases c87 : 0 ≤ x181_2
       rotate_left
       ·rw [if_neg c87] at H
        exact absurd H (by simp)
       rw [if_pos c87] at H
       have c87b0 : decide (0 ≤ x181_2) = true := decide_eq_true c87
       clear c87
       by_cases c88 : x181_2 < (t515.length : Int)
       rotate_left
       ·rw [if_neg c88] at H
        exact absurd H (by simp)
       rw [if_pos c88] at H
       have c88b0 : decide (x181_2 < (t515.length : Int)) = true := decide_eq_true c88
       clear c88
       have HC89 := Aside0.mk H
       clear H
       have p534 : 0 ≤ (x181_2 : Int) := of_decide_eq_true (by first | (with_reducible assumption) | assumption)
       have q534 : x181_2 < (t515.length : Int) := of_decide_eq_true (by first | (with_reducible assumption) | assumption)
       obtain ⟨ad534, e534, hx534_0⟩ := Kd.at_int (Kd.R_reads' HO_179.out).2.2 x181_2 p534 q534
       cases e534
       replace p534 := eq_true p534
       replace q534 := eq_true q534
       go_upto_if 188 with (fail)
       go_cut [23] (fun v23 wc => ∃ (kq : Nat) (x23_88 : Int), v23 = .int .i64 x23_88 ∧ Aside0 (laws_FnPlacesAndLasts.j2 kq l1 t507 t508 t509 t510 x23_88 t515 (t515.length : Int) x181_2 = some r) ∧ Aside0 (kq ≤ k2) ∧ Aside0 (Kd.R (Kd.int .i64) 3 wc w.heap.size (fun _ => True) (.slice (some ad534) t515.length co85) t515) ∧ Aside0 (Below w.heap.size w wc))
       case first =>
        have H := HC89.out
        clear HC89
        by_cases c90 : t508 = (rd t515 x181_2)
        ·rw [if_pos c90] at H
         have c90b0 : (t508 == (rd t515 x181_2)) = true := beq_iff_eq.mpr c90
         have c90b1 : (t508 != (rd t515 x181_2)) = false := bne_eq_false_iff_eq.mpr c90
         clear c90
         (first | rw [c90b0] | (simp only [i64_w, i32_w]; rw [c90b0]) | skip)
         have H' := Aside0.mk H
         clear H
         go_wp2
         go_meet
         case rel => exact ⟨_, (wrap64 ((rd t515 x181_2) + 1)), (by first | rfl | (simp; done) | (simp [*]; done)), H', ⟨by have := HJ11.out; have := HK2.out; first | omega | exact Nat.le_refl _⟩, ⟨Rl_ HO_179.out⟩, ⟨Bl_ HB⟩⟩
        rw [if_neg c90] at H
        have c90b0 : (t508 == (rd t515 x181_2)) = false := beq_eq_false_iff_ne.mpr c90
        have c90b1 : (t508 != (rd t515 x181_2)) = true := bne_iff_ne.mpr c90
        (first | rw [c90b0] | (simp only [i64_w, i32_w]; rw [c90b0]) | skip)
        by_cases c91 : t508 = (wrap64 ((rd t515 x181_2) + 1))
        rotate_left
        ·rw [if_neg c91] at H
         have c91b0 : (t508 == (wrap64 ((rd t515 x181_2) + 1))) = false := beq_eq_false_iff_ne.mpr c91
         have c91b1 : (t508 != (wrap64 ((rd t515 x181_2) + 1))) = true := bne_iff_ne.mpr c91
         have H' := Aside0.mk H
         clear H
         go_wp2
         go_meet
         case rel => exact ⟨_, (t508), (by first | rfl | (simp; done) | (simp [*]; done)), H', ⟨by have := HJ11.out; have := HK2.out; first | omega | exact Nat.le_refl _⟩, ⟨Rl_ HO_179.out⟩, ⟨Bl_ HB⟩⟩
        rw [if_pos c91] at H
        have c91b0 : (t508 == (wrap64 ((rd t515 x181_2) + 1))) = true := beq_iff_eq.mpr c91
        have c91b1 : (t508 != (wrap64 ((rd t515 x181_2) + 1))) = false := bne_eq_false_iff_eq.mpr c91
        clear c91
        have H' := Aside0.mk H
        clear H
        go_wp2
        go_meet
        case rel => exact ⟨_, (rd t515 x181_2), (by first | rfl | (simp; done) | (simp [*]; done)), H', ⟨by have := HJ11.out; have := HK2.out; first | omega | exact Nat.le_refl _⟩, ⟨Rl_ HO_179.out⟩, ⟨Bl_ HB⟩⟩
       case rest =>
        as_aux_lemma =>
        clear HC89
        try clear c1
        try clear c2
        try clear p2
        try clear c3
        try clear c4
        try clear c5
        try clear p5
        try clear q5
        try clear hx5
        try clear c6
        try clear p6
        try clear c7
        try clear c8
        try clear c9
        try clear c10
        try clear c11
        try clear c19
        try clear c19b0
        try clear c19b1
        try clear c19b2
        try clear c20
        try clear c20b0
        try clear c20b1
        try clear c20b2
        try clear c21
        try clear c21b0
        try clear c21b1
        try clear c21b2
        try clear c23
        try clear c24
        try clear c24b0
        try clear c24b1
        try clear c24b2
        try clear c28
        try clear c29
        try clear c29b0
        try clear c29b1
        try clear c29b2
        try clear c34
        try clear c35
        try clear p53
        try clear q53
        try clear hx53
        try clear c55
        try clear c57
        try clear c58
        try clear c58b0
        try clear c58b1
        try clear c59
        try clear c59b0
        try clear c59b1
        try clear c59b2
        try clear c60
        try clear c60b0
        try clear c60b1
        try clear c61
        try clear c61b0
        try clear c62
        try clear c62b0
        try clear c62b1
        try clear c62b2
        try clear c63
        try clear c63b0
        try clear p64
        try clear c65
        try clear c65b0
        try clear c66
        try clear c66b0
        try clear c67
        try clear c67b0
        try clear c69
        try clear c69b0
        try clear c69b1
        try clear c70
        try clear c70b0
        try clear c70b1
        try clear c71
        try clear c71b0
        try clear c72
        try clear c72b0
        try clear c72b1
        try clear c74
        try clear c75
        try clear c76
        try clear c76b0
        try clear c76b1
        try clear c78
        try clear c79
        try clear c81
        try clear c82
        try clear c84
        try clear c84b0
        try clear c86
        try clear c86b0
        try clear c87
        try clear c87b0
        try clear c88
        try clear c88b0
        try clear c90
        try clear c90b0
        try clear c90b1
        try clear c91
        try clear c91b0
        try clear c91b1
        try clear hx534_0
        try clear p2
        try clear p5
        try clear p53
        try clear p534
        try clear p6
        try clear p64
        try clear q5
        try clear q53
        try clear q534
        obtain ⟨kq, x23_88, rfl, HA, HJ88, HO_179, HB⟩ := hcut
        cases kq with
        | zero => exact absurd HA.out (by simp [laws_FnPlacesAndLasts.j2])
        | succ kj88 =>
         have H := HA.out
         clear HA
         simp only [laws_FnPlacesAndLasts.j2] at H
         have H' := Aside0.mk H
         clear H
         go_wp2
         go_loopg [24] kj88 (fun kq v24 w' => ∃ (x24_4 : Int), v24 = .int .i64 x24_4 ∧ Aside0 (laws_FnPlacesAndLasts.l1 kq l1 t507 t508 t509 t510 x23_88 x24_4 t515 (t515.length : Int) x181_2 = some r) ∧ Aside0 (kq ≤ kj88) ∧ Aside0 (Kd.R (Kd.int .i64) 3 w' w.heap.size (fun _ => True) (.slice (some ad534) t515.length co85) t515) ∧ Aside0 (Below w.heap.size w w'))
         case atStart => exact ⟨(0), (by first | rfl | (simp; done) | (simp [*]; done)), H', ⟨Nat.le_refl _⟩, ⟨Rl_ HO_179.out⟩, ⟨Bl_ HB⟩⟩
         case round =>
          as_aux_lemma =>
          clear H'
          try clear c1
          try clear c2
          try clear p2
          try clear c3
          try clear c4
          try clear c5
          try clear p5
          try clear q5
          try clear hx5
          try clear c6
          try clear p6
          try clear c7
          try clear c8
          try clear c9
          try clear c10
          try clear c11
          try clear c19
          try clear c19b0
          try clear c19b1
          try clear c19b2
          try clear c20
          try clear c20b0
          try clear c20b1
          try clear c20b2
          try clear c21
          try clear c21b0
          try clear c21b1
          try clear c21b2
          try clear c23
          try clear c24
          try clear c24b0
          try clear c24b1
          try clear c24b2
          try clear c28
          try clear c29
          try clear c29b0
          try clear c29b1
          try clear c29b2
          try clear c34
          try clear c35
          try clear p53
          try clear q53
          try clear hx53
          try clear c55
          try clear c57
          try clear c58
          try clear c58b0
          try clear c58b1
          try clear c59
          try clear c59b0
          try clear c59b1
          try clear c59b2
          try clear c60
          try clear c60b0
          try clear c60b1
          try clear c61
          try clear c61b0
          try clear c62
          try clear c62b0
          try clear c62b1
          try clear c62b2
          try clear c63
          try clear c63b0
          try clear p64
          try clear c65
          try clear c65b0
          try clear c66
          try clear c66b0
          try clear c67
          try clear c67b0
          try clear c69
          try clear c69b0
          try clear c69b1
          try clear c70
          try clear c70b0
          try clear c70b1
          try clear c71
          try clear c71b0
          try clear c72
          try clear c72b0
          try clear c72b1
          try clear c74
          try clear c75
          try clear c76
          try clear c76b0
          try clear c76b1
          try clear c78
          try clear c79
          try clear c81
          try clear c82
          try clear c84
          try clear c84b0
          try clear c86
          try clear c86b0
          try clear c87
          try clear c87b0
          try clear c88
          try clear c88b0
          try clear c90
          try clear c90b0
          try clear c90b1
          try clear c91
          try clear c91b0
          try clear c91b1
          try clear hx534_0
          try clear p2
          try clear p5
          try clear p53
          try clear p534
          try clear p6
          try clear p64
          try clear q5
          try clear q53
          try clear q534
          obtain ⟨x24_4, rfl, HA, HK4, HO_179, HB⟩ := hrel
          cases gk with
          | zero => exact absurd HA.out (by simp [laws_FnPlacesAndLasts.l1])
          | succ k4 =>
           have H := HA.out
           clear HA
           simp only [laws_FnPlacesAndLasts.l1] at H
           by_cases c92 : x24_4 < (wrap64 (t507 - 1))
           rotate_left
           ·rw [if_neg c92] at H
            have c92b0 : decide (x24_4 < (wrap64 (t507 - 1))) = false := decide_eq_false c92
            clear c92
            have H' := Aside0.mk H
            clear H
            go_wp2
            go_roundg k4
            case measure => have := HJ11.out; have := HK2.out; have := HJ88.out; have := HK4.out; omega
            case rel => exact ⟨(wrap64 (x181_2 + 1)), (by first | rfl | (simp; done) | (simp [*]; done)), H', ⟨by have := HJ11.out; have := HK2.out; have := HJ88.out; have := HK4.out; omega⟩, ⟨Rl_ HO_179.out⟩, ⟨Bl_ HB⟩⟩
           rw [if_pos c92] at H
           have c92b0 : decide (x24_4 < (wrap64 (t507 - 1))) = true := decide_eq_true c92
           clear c92
           by_cases c93 : x23_88 = x24_4
           ·rw [if_pos c93] at H
            have c93b0 : (x23_88 == x24_4) = true := beq_iff_eq.mpr c93
            have c93b1 : (x23_88 != x24_4) = false := bne_eq_false_iff_eq.mpr c93
            clear c93
            replace H := Option.bind_eq_some_iff.mp H
            obtain ⟨⟨t535, t536⟩, A940, H⟩ := H
            (try dsimp only at H)
            have A94 := Aside0.mk A940
            clear A940
            by_cases c95 : t536 = true
            rotate_left
            ·replace c95 := Bool.eq_false_iff.mpr c95
             subst c95
             rw [if_neg (show ¬ (false = true) by decide)] at H
             exact absurd H (by simp)
            subst c95
            rw [if_pos rfl] at H
            by_cases c96 : t535 = true
            rotate_left
            ·replace c96 := Bool.eq_false_iff.mpr c96
             subst c96
             rw [if_neg (show ¬ (false = true) by decide)] at H
             exact absurd H (by simp)
            subst c96
            rw [if_pos rfl] at H
            have H' := Aside0.mk H
            clear H
            go_wp2_with (first | ((with_reducible refine gate_callee (f := 6) rfl ?_); refine gl_ (some 219) rfl rfl Try.func6 (by kernel_rfl) rfl #[.int .i64 t507, .int .i64 (wrap64 (x24_4 + 1)), .int .i64 t509, .int .i64 (wrap64 (t510 - 2))] rfl ?_; (with_reducible refine (impl_PlaceWinner.calls k4 t507 (wrap64 (x24_4 + 1)) t509 (wrap64 (t510 - 2)) true true _ A94.out).mono ?_); rintro e w' ⟨rfl, ⟨nd, rfl⟩⟩; refine ⟨_, rfl, ?_⟩))
            go_roundg k4
            case measure => have := HJ11.out; have := HK2.out; have := HJ88.out; have := HK4.out; omega
            case rel => exact ⟨(wrap64 (x24_4 + 1)), (by first | rfl | (simp; done) | (simp [*]; done)), H', ⟨by have := HJ11.out; have := HK2.out; have := HJ88.out; have := HK4.out; omega⟩, ⟨Rl_ HO_179.out⟩, ⟨Bl_ HB⟩⟩
           as_aux_lemma =>
           rw [if_neg c93] at H
           have c93b0 : (x23_88 == x24_4) = false := beq_eq_false_iff_ne.mpr c93
           have c93b1 : (x23_88 != x24_4) = true := bne_iff_ne.mpr c93
           by_cases c97 : x23_88 = (wrap64 (x24_4 + 1))
           rotate_left
           ·rw [if_neg c97] at H
            have c97b0 : (x23_88 == (wrap64 (x24_4 + 1))) = false := beq_eq_false_iff_ne.mpr c97
            have c97b1 : (x23_88 != (wrap64 (x24_4 + 1))) = true := bne_iff_ne.mpr c97
            replace H := Option.bind_eq_some_iff.mp H
            obtain ⟨⟨t539, t540⟩, A1010, H⟩ := H
            (try dsimp only at H)
            have A101 := Aside0.mk A1010
            clear A1010
            by_cases c102 : t540 = true
            rotate_left
            ·replace c102 := Bool.eq_false_iff.mpr c102
             subst c102
             rw [if_neg (show ¬ (false = true) by decide)] at H
             exact absurd H (by simp)
            subst c102
            rw [if_pos rfl] at H
            by_cases c103 : t539 = true
            rotate_left
            ·replace c103 := Bool.eq_false_iff.mpr c103
             subst c103
             rw [if_neg (show ¬ (false = true) by decide)] at H
             exact absurd H (by simp)
            subst c103
            rw [if_pos rfl] at H
            have H' := Aside0.mk H
            clear H
            go_wp2_with (first | ((with_reducible refine gate_callee (f := 6) rfl ?_); refine gl_ (some 219) rfl rfl Try.func6 (by kernel_rfl) rfl #[.int .i64 t507, .int .i64 x23_88, .int .i64 t509, .int .i64 (wrap64 (t510 - 2))] rfl ?_; (with_reducible refine (impl_PlaceWinner.calls k4 t507 x23_88 t509 (wrap64 (t510 - 2)) true true _ A101.out).mono ?_); rintro e w' ⟨rfl, ⟨nd, rfl⟩⟩; refine ⟨_, rfl, ?_⟩))
            go_roundg k4
            case measure => have := HJ11.out; have := HK2.out; have := HJ88.out; have := HK4.out; omega
            case rel => exact ⟨(wrap64 (x24_4 + 1)), (by first | rfl | (simp; done) | (simp [*]; done)), H', ⟨by have := HJ11.out; have := HK2.out; have := HJ88.out; have := HK4.out; omega⟩, ⟨Rl_ HO_179.out⟩, ⟨Bl_ HB⟩⟩
           rw [if_pos c97] at H
           have c97b0 : (x23_88 == (wrap64 (x24_4 + 1))) = true := beq_iff_eq.mpr c97
           have c97b1 : (x23_88 != (wrap64 (x24_4 + 1))) = false := bne_eq_false_iff_eq.mpr c97
           clear c97
           replace H := Option.bind_eq_some_iff.mp H
           obtain ⟨⟨t537, t538⟩, A980, H⟩ := H
           (try dsimp only at H)
           have A98 := Aside0.mk A980
           clear A980
           by_cases c99 : t538 = true
           rotate_left
           ·replace c99 := Bool.eq_false_iff.mpr c99
            subst c99
            rw [if_neg (show ¬ (false = true) by decide)] at H
            exact absurd H (by simp)
           subst c99
           rw [if_pos rfl] at H
           by_cases c100 : t537 = true
           rotate_left
           ·replace c100 := Bool.eq_false_iff.mpr c100
            subst c100
            rw [if_neg (show ¬ (false = true) by decide)] at H
            exact absurd H (by simp)
           subst c100
           rw [if_pos rfl] at H
           have H' := Aside0.mk H
           clear H
           go_wp2_with (first | ((with_reducible refine gate_callee (f := 6) rfl ?_); refine gl_ (some 219) rfl rfl Try.func6 (by kernel_rfl) rfl #[.int .i64 t507, .int .i64 x24_4, .int .i64 t509, .int .i64 (wrap64 (t510 - 2))] rfl ?_; (with_reducible refine (impl_PlaceWinner.calls k4 t507 x24_4 t509 (wrap64 (t510 - 2)) true true _ A98.out).mono ?_); rintro e w' ⟨rfl, ⟨nd, rfl⟩⟩; refine ⟨_, rfl, ?_⟩))
           go_roundg k4
           case measure => have := HJ11.out; have := HK2.out; have := HJ88.out; have := HK4.out; omega
           case rel => exact ⟨(wrap64 (x24_4 + 1)), (by first | rfl | (simp; done) | (simp [*]; done)), H', ⟨by have := HJ11.out; have := HK2.out; have := HJ88.out; have := HK4.out; omega⟩, ⟨Rl_ HO_179.out⟩, ⟨Bl_ HB⟩⟩
    as_aux_lemma =>
    rw [if_neg c58] at H
    have c58b0 : (t510 == 0) = false := beq_eq_false_iff_ne.mpr c58
    have c58b1 : (t510 != 0) = true := bne_iff_ne.mpr c58
    (first | rw [c58b0] | (simp only [i64_w, i32_w]; rw [c58b0]) | skip)
    by_cases c105 : t510 > 0
    ·as_aux_lemma =>
     rw [if_pos c105] at H
     have c105b0 : decide (0 < t510) = true := decide_eq_true c105
     clear c105
     by_cases c106 : (t511 != (decide ((t515.length : Int) > 0))) = true
     ·rw [if_pos c106] at H
      exact absurd H (by simp)
     rw [if_neg c106] at H
     have c106b0 : (t511 != (decide ((t515.length : Int) > 0))) = false := by simpa using c106
     (try (have c106q : (t511 != (decide (0 < t515.length))) = false := by simpa using c106b0))
     (try (have c106r : (t511 == (decide (0 < t515.length))) = true := by simpa using c106b0))
     (try (have c106b1 : decide (t511 = (decide ((t515.length : Int) > 0))) = true := by simpa using c106))
     (try (have c106b2 : (t511 == (decide ((t515.length : Int) > 0))) = true := by simpa using c106))
     clear c106
     by_cases c107 : t510 ≥ 2
     rotate_left
     ·rw [if_neg c107] at H
      have c107b0 : decide (2 ≤ t510) = false := decide_eq_false c107
      clear c107
      have H' := Aside0.mk H
      clear H
      obtain ⟨Ao127, co127, eo127⟩ := Kd.R_slice HO_13.out
      subst eo127
      go_wp2
      go_meet
      case rel => exact ⟨_, H', ⟨by have := HJ11.out; first | omega | exact Nat.le_refl _⟩, ⟨Bl_ HB⟩⟩
     rw [if_pos c107] at H
     have c107b0 : decide (2 ≤ t510) = true := decide_eq_true c107
     clear c107
     have H' := Aside0.mk H
     clear H
     obtain ⟨Ao108, co108, eo108⟩ := Kd.R_slice HO_13.out
     subst eo108
     go_wp2
     go_loopg [181] kj11 (fun kq v181 w' => ∃ (x181_2 : Int), v181 = .int .i64 x181_2 ∧ Aside0 (laws_FnPlacesAndLasts.l0 kq l1 t507 t508 t509 t510 t515 (t515.length : Int) x181_2 = some r) ∧ Aside0 (kq ≤ kj11) ∧ Aside0 (Kd.R (Kd.int .i64) 3 w' w.heap.size (fun _ => True) (.slice Ao108 t515.length co108) t515) ∧ Aside0 (Below w.heap.size w w'))
     case atStart => exact ⟨(0), (by first | rfl | (simp; done) | (simp [*]; done)), H', ⟨Nat.le_refl _⟩, ⟨Rl_ HO_13.out⟩, ⟨Bl_ HB⟩⟩
     case round =>
      as_aux_lemma =>
      clear H'
      try clear c1
      try clear c2
      try clear p2
      try clear c3
      try clear c4
      try clear c5
      try clear p5
      try clear q5
      try clear hx5
      try clear c6
      try clear p6
      try clear c7
      try clear c8
      try clear c9
      try clear c10
      try clear c11
      try clear c19
      try clear c19b0
      try clear c19b1
      try clear c19b2
      try clear c20
      try clear c20b0
      try clear c20b1
      try clear c20b2
      try clear c21
      try clear c21b0
      try clear c21b1
      try clear c21b2
      try clear c23
      try clear c24
      try clear c24b0
      try clear c24b1
      try clear c24b2
      try clear c28
      try clear c29
      try clear c29b0
      try clear c29b1
      try clear c29b2
      try clear c34
      try clear c35
      try clear p53
      try clear q53
      try clear hx53
      try clear c55
      try clear c57
      try clear c58
      try clear c58b0
      try clear c58b1
      try clear c59
      try clear c59b0
      try clear c59b1
      try clear c59b2
      try clear c60
      try clear c60b0
      try clear c60b1
      try clear c61
      try clear c61b0
      try clear c62
      try clear c62b0
      try clear c62b1
      try clear c62b2
      try clear c63
      try clear c63b0
      try clear p64
      try clear c65
      try clear c65b0
      try clear c66
      try clear c66b0
      try clear c67
      try clear c67b0
      try clear c69
      try clear c69b0
      try clear c69b1
      try clear c70
      try clear c70b0
      try clear c70b1
      try clear c71
      try clear c71b0
      try clear c72
      try clear c72b0
      try clear c72b1
      try clear c74
      try clear c75
      try clear c76
      try clear c76b0
      try clear c76b1
      try clear c78
      try clear c79
      try clear c81
      try clear c82
      try clear c84
      try clear c84b0
      try clear c86
      try clear c86b0
      try clear c87
      try clear c87b0
      try clear c88
      try clear c88b0
      try clear c90
      try clear c90b0
      try clear c90b1
      try clear c91
      try clear c91b0
      try clear c91b1
      try clear c92
      try clear c92b0
      try clear c93
      try clear c93b0
      try clear c93b1
      try clear c95
      try clear c96
      try clear c97
      try clear c97b0
      try clear c97b1
      try clear c99
      try clear c100
      try clear c102
      try clear c103
      try clear c105
      try clear c105b0
      try clear c106
      try clear c106b0
      try clear c106b1
      try clear c106b2
      try clear c107
      try clear c107b0
      try clear hx534_0
      try clear p2
      try clear p5
      try clear p53
      try clear p534
      try clear p6
      try clear p64
      try clear q5
      try clear q53
      try clear q534
      obtain ⟨x181_2, rfl, HA, HK2, HO_179, HB⟩ := hrel
      cases gk with
      | zero => exact absurd HA.out (by simp [laws_FnPlacesAndLasts.l0])
      | succ k2 =>
       have H := HA.out
       clear HA
       simp only [laws_FnPlacesAndLasts.l0] at H
       by_cases c109 : x181_2 < (t515.length : Int)
       rotate_left
       ·rw [if_neg c109] at H
        have c109b0 : decide (x181_2 < (t515.length : Int)) = false := decide_eq_false c109
        clear c109
        have H' := Aside0.mk H
        clear H
        go_wp2
        go_meet
        case rel => exact ⟨_, H', ⟨by have := HJ11.out; have := HK2.out; first | omega | exact Nat.le_refl _⟩, ⟨Bl_ HB⟩⟩
       rw [if_pos c109] at H
       have c109b0 : decide (x181_2 < (t515.length : Int)) = true := decide_eq_true c109
       clear c109
       by_cases c110 : 0 ≤ x181_2
       rotate_left
       ·rw [if_neg c110] at H
        exact absurd H (by simp)
       rw [if_pos c110] at H
       have c110b0 : decide (0 ≤ x181_2) = true := decide_eq_true c110
       clear c110
       by_cases c111 : x181_2 < (t515.length : Int)
       rotate_left
       ·rw [if_neg c111] at H
        exact absurd H (by simp)
       rw [if_pos c111] at H
       have c111b0 : decide (x181_2 < (t515.length : Int)) = true := decide_eq_true c111
       clear c111
       have HC112 := Aside0.mk H
       clear H
       have p534 : 0 ≤ (x181_2 : Int) := of_decide_eq_true (by first | (with_reducible assumption) | assumption)
       have q534 : x181_2 < (t515.length : Int) := of_decide_eq_true (by first | (with_reducible assumption) | assumption)
       obtain ⟨ad534, e534, hx534_0⟩ := Kd.at_int (Kd.R_reads' HO_179.out).2.2 x181_2 p534 q534
       cases e534
       replace p534 := eq_true p534
       replace q534 := eq_true q534
       go_upto_if 188 with (fail)
       go_cut [23] (fun v23 wc => ∃ (kq : Nat) (x23_111 : Int), v23 = .int .i64 x23_111 ∧ Aside0 (laws_FnPlacesAndLasts.j2 kq l1 t507 t508 t509 t510 x23_111 t515 (t515.length : Int) x181_2 = some r) ∧ Aside0 (kq ≤ k2) ∧ Aside0 (Kd.R (Kd.int .i64) 3 wc w.heap.size (fun _ => True) (.slice (some ad534) t515.length co108) t515) ∧ Aside0 (Below w.heap.size w wc))
       case first =>
        have H := HC112.out
        clear HC112
        by_cases c113 : t508 = (rd t515 x181_2)
        ·rw [if_pos c113] at H
         have c113b0 : (t508 == (rd t515 x181_2)) = true := beq_iff_eq.mpr c113
         have c113b1 : (t508 != (rd t515 x181_2)) = false := bne_eq_false_iff_eq.mpr c113
         clear c113
         (first | rw [c113b0] | (simp only [i64_w, i32_w]; rw [c113b0]) | skip)
         have H' := Aside0.mk H
         clear H
         go_wp2
         go_meet
         case rel => exact ⟨_, (wrap64 ((rd t515 x181_2) + 1)), (by first | rfl | (simp; done) | (simp [*]; done)), H', ⟨by have := HJ11.out; have := HK2.out; first | omega | exact Nat.le_refl _⟩, ⟨Rl_ HO_179.out⟩, ⟨Bl_ HB⟩⟩
        rw [if_neg c113] at H
        have c113b0 : (t508 == (rd t515 x181_2)) = false := beq_eq_false_iff_ne.mpr c113
        have c113b1 : (t508 != (rd t515 x181_2)) = true := bne_iff_ne.mpr c113
        (first | rw [c113b0] | (simp only [i64_w, i32_w]; rw [c113b0]) | skip)
        by_cases c114 : t508 = (wrap64 ((rd t515 x181_2) + 1))
        rotate_left
        ·rw [if_neg c114] at H
         have c114b0 : (t508 == (wrap64 ((rd t515 x181_2) + 1))) = false := beq_eq_false_iff_ne.mpr c114
         have c114b1 : (t508 != (wrap64 ((rd t515 x181_2) + 1))) = true := bne_iff_ne.mpr c114
         have H' := Aside0.mk H
         clear H
         go_wp2
         go_meet
         case rel => exact ⟨_, (t508), (by first | rfl | (simp; done) | (simp [*]; done)), H', ⟨by have := HJ11.out; have := HK2.out; first | omega | exact Nat.le_refl _⟩, ⟨Rl_ HO_179.out⟩, ⟨Bl_ HB⟩⟩
        rw [if_pos c114] at H
        have c114b0 : (t508 == (wrap64 ((rd t515 x181_2) + 1))) = true := beq_iff_eq.mpr c114
        have c114b1 : (t508 != (wrap64 ((rd t515 x181_2) + 1))) = false := bne_eq_false_iff_eq.mpr c114
        clear c114
        have H' := Aside0.mk H
        clear H
        go_wp2
        go_meet
        case rel => exact ⟨_, (rd t515 x181_2), (by first | rfl | (simp; done) | (simp [*]; done)), H', ⟨by have := HJ11.out; have := HK2.out; first | omega | exact Nat.le_refl _⟩, ⟨Rl_ HO_179.out⟩, ⟨Bl_ HB⟩⟩
       case rest =>
        as_aux_lemma =>
        clear HC112
        try clear c1
        try clear c2
        try clear p2
        try clear c3
        try clear c4
        try clear c5
        try clear p5
        try clear q5
        try clear hx5
        try clear c6
        try clear p6
        try clear c7
        try clear c8
        try clear c9
        try clear c10
        try clear c11
        try clear c19
        try clear c19b0
        try clear c19b1
        try clear c19b2
        try clear c20
        try clear c20b0
        try clear c20b1
        try clear c20b2
        try clear c21
        try clear c21b0
        try clear c21b1
        try clear c21b2
        try clear c23
        try clear c24
        try clear c24b0
        try clear c24b1
        try clear c24b2
        try clear c28
        try clear c29
        try clear c29b0
        try clear c29b1
        try clear c29b2
        try clear c34
        try clear c35
        try clear p53
        try clear q53
        try clear hx53
        try clear c55
        try clear c57
        try clear c58
        try clear c58b0
        try clear c58b1
        try clear c59
        try clear c59b0
        try clear c59b1
        try clear c59b2
        try clear c60
        try clear c60b0
        try clear c60b1
        try clear c61
        try clear c61b0
        try clear c62
        try clear c62b0
        try clear c62b1
        try clear c62b2
        try clear c63
        try clear c63b0
        try clear p64
        try clear c65
        try clear c65b0
        try clear c66
        try clear c66b0
        try clear c67
        try clear c67b0
        try clear c69
        try clear c69b0
        try clear c69b1
        try clear c70
        try clear c70b0
        try clear c70b1
        try clear c71
        try clear c71b0
        try clear c72
        try clear c72b0
        try clear c72b1
        try clear c74
        try clear c75
        try clear c76
        try clear c76b0
        try clear c76b1
        try clear c78
        try clear c79
        try clear c81
        try clear c82
        try clear c84
        try clear c84b0
        try clear c86
        try clear c86b0
        try clear c87
        try clear c87b0
        try clear c88
        try clear c88b0
        try clear c90
        try clear c90b0
        try clear c90b1
        try clear c91
        try clear c91b0
        try clear c91b1
        try clear c92
        try clear c92b0
        try clear c93
        try clear c93b0
        try clear c93b1
        try clear c95
        try clear c96
        try clear c97
        try clear c97b0
        try clear c97b1
        try clear c99
        try clear c100
        try clear c102
        try clear c103
        try clear c105
        try clear c105b0
        try clear c106
        try clear c106b0
        try clear c106b1
        try clear c106b2
        try clear c107
        try clear c107b0
        try clear c109
        try clear c109b0
        try clear c110
        try clear c110b0
        try clear c111
        try clear c111b0
        try clear c113
        try clear c113b0
        try clear c113b1
        try clear c114
        try clear c114b0
        try clear c114b1
        try clear hx534_0
        try clear p2
        try clear p5
        try clear p53
        try clear p534
        try clear p6
        try clear p64
        try clear q5
        try clear q53
        try clear q534
        obtain ⟨kq, x23_111, rfl, HA, HJ111, HO_179, HB⟩ := hcut
        cases kq with
        | zero => exact absurd HA.out (by simp [laws_FnPlacesAndLasts.j2])
        | succ kj111 =>
         have H := HA.out
         clear HA
         simp only [laws_FnPlacesAndLasts.j2] at H
         have H' := Aside0.mk H
         clear H
         go_wp2
         go_loopg [24] kj111 (fun kq v24 w' => ∃ (x24_4 : Int), v24 = .int .i64 x24_4 ∧ Aside0 (laws_FnPlacesAndLasts.l1 kq l1 t507 t508 t509 t510 x23_111 x24_4 t515 (t515.length : Int) x181_2 = some r) ∧ Aside0 (kq ≤ kj111) ∧ Aside0 (Kd.R (Kd.int .i64) 3 w' w.heap.size (fun _ => True) (.slice (some ad534) t515.length co108) t515) ∧ Aside0 (Below w.heap.size w w'))
         case atStart => exact ⟨(0), (by first | rfl | (simp; done) | (simp [*]; done)), H', ⟨Nat.le_refl _⟩, ⟨Rl_ HO_179.out⟩, ⟨Bl_ HB⟩⟩
         case round =>
          as_aux_lemma =>
          clear H'
          try clear c1
          try clear c2
          try clear p2
          try clear c3
          try clear c4
          try clear c5
          try clear p5
          try clear q5
          try clear hx5
          try clear c6
          try clear p6
          try clear c7
          try clear c8
          try clear c9
          try clear c10
          try clear c11
          try clear c19
          try clear c19b0
          try clear c19b1
          try clear c19b2
          try clear c20
          try clear c20b0
          try clear c20b1
          try clear c20b2
          try clear c21
          try clear c21b0
          try clear c21b1
          try clear c21b2
          try clear c23
          try clear c24
          try clear c24b0
          try clear c24b1
          try clear c24b2
          try clear c28
          try clear c29
          try clear c29b0
          try clear c29b1
          try clear c29b2
          try clear c34
          try clear c35
          try clear p53
          try clear q53
          try clear hx53
          try clear c55
          try clear c57
          try clear c58
          try clear c58b0
          try clear c58b1
          try clear c59
          try clear c59b0
          try clear c59b1
          try clear c59b2
          try clear c60
          try clear c60b0
          try clear c60b1
          try clear c61
          try clear c61b0
          try clear c62
          try clear c62b0
          try clear c62b1
          try clear c62b2
          try clear c63
          try clear c63b0
          try clear p64
          try clear c65
          try clear c65b0
          try clear c66
          try clear c66b0
          try clear c67
          try clear c67b0
          try clear c69
          try clear c69b0
          try clear c69b1
          try clear c70
          try clear c70b0
          try clear c70b1
          try clear c71
          try clear c71b0
          try clear c72
          try clear c72b0
          try clear c72b1
          try clear c74
          try clear c75
          try clear c76
          try clear c76b0
          try clear c76b1
          try clear c78
          try clear c79
          try clear c81
          try clear c82
          try clear c84
          try clear c84b0
          try clear c86
          try clear c86b0
          try clear c87
          try clear c87b0
          try clear c88
          try clear c88b0
          try clear c90
          try clear c90b0
          try clear c90b1
          try clear c91
          try clear c91b0
          try clear c91b1
          try clear c92
          try clear c92b0
          try clear c93
          try clear c93b0
          try clear c93b1
          try clear c95
          try clear c96
          try clear c97
          try clear c97b0
          try clear c97b1
          try clear c99
          try clear c100
          try clear c102
          try clear c103
          try clear c105
          try clear c105b0
          try clear c106
          try clear c106b0
          try clear c106b1
          try clear c106b2
          try clear c107
          try clear c107b0
          try clear c109
          try clear c109b0
          try clear c110
          try clear c110b0
          try clear c111
          try clear c111b0
          try clear c113
          try clear c113b0
          try clear c113b1
          try clear c114
          try clear c114b0
          try clear c114b1
          try clear hx534_0
          try clear p2
          try clear p5
          try clear p53
          try clear p534
          try clear p6
          try clear p64
          try clear q5
          try clear q53
          try clear q534
          obtain ⟨x24_4, rfl, HA, HK4, HO_179, HB⟩ := hrel
          cases gk with
          | zero => exact absurd HA.out (by simp [laws_FnPlacesAndLasts.l1])
          | succ k4 =>
           have H := HA.out
           clear HA
           simp only [laws_FnPlacesAndLasts.l1] at H
           by_cases c115 : x24_4 < (wrap64 (t507 - 1))
           rotate_left
           ·rw [if_neg c115] at H
            have c115b0 : decide (x24_4 < (wrap64 (t507 - 1))) = false := decide_eq_false c115
            clear c115
            have H' := Aside0.mk H
            clear H
            go_wp2
            go_roundg k4
            case measure => have := HJ11.out; have := HK2.out; have := HJ111.out; have := HK4.out; omega
            case rel => exact ⟨(wrap64 (x181_2 + 1)), (by first | rfl | (simp; done) | (simp [*]; done)), H', ⟨by have := HJ11.out; have := HK2.out; have := HJ111.out; have := HK4.out; omega⟩, ⟨Rl_ HO_179.out⟩, ⟨Bl_ HB⟩⟩
           rw [if_pos c115] at H
           have c115b0 : decide (x24_4 < (wrap64 (t507 - 1))) = true := decide_eq_true c115
           clear c115
           by_cases c116 : x23_111 = x24_4
           ·rw [if_pos c116] at H
            have c116b0 : (x23_111 == x24_4) = true := beq_iff_eq.mpr c116
            have c116b1 : (x23_111 != x24_4) = false := bne_eq_false_iff_eq.mpr c116
            clear c116
            replace H := Option.bind_eq_some_iff.mp H
            obtain ⟨⟨t535, t536⟩, A1170, H⟩ := H
            (try dsimp only at H)
            have A117 := Aside0.mk A1170
            clear A1170
            by_cases c118 : t536 = true
            rotate_left
            ·replace c118 := Bool.eq_false_iff.mpr c118
             subst c118
             rw [if_neg (show ¬ (false = true) by decide)] at H
             exact absurd H (by simp)
            subst c118
            rw [if_pos rfl] at H
            by_cases c119 : t535 = true
            rotate_left
            ·replace c119 := Bool.eq_false_iff.mpr c119
             subst c119
             rw [if_neg (show ¬ (false = true) by decide)] at H
             exact absurd H (by simp)
            subst c119
            rw [if_pos rfl] at H
            have H' := Aside0.mk H
            clear H
            go_wp2_with (first | ((with_reducible refine gate_callee (f := 6) rfl ?_); refine gl_ (some 219) rfl rfl Try.func6 (by kernel_rfl) rfl #[.int .i64 t507, .int .i64 (wrap64 (x24_4 + 1)), .int .i64 t509, .int .i64 (wrap64 (t510 - 2))] rfl ?_; (with_reducible refine (impl_PlaceWinner.calls k4 t507 (wrap64 (x24_4 + 1)) t509 (wrap64 (t510 - 2)) true true _ A117.out).mono ?_); rintro e w' ⟨rfl, ⟨nd, rfl⟩⟩; refine ⟨_, rfl, ?_⟩))
            go_roundg k4
            case measure => have := HJ11.out; have := HK2.out; have := HJ111.out; have := HK4.out; omega
            case rel => exact ⟨(wrap64 (x24_4 + 1)), (by first | rfl | (simp; done) | (simp [*]; done)), H', ⟨by have := HJ11.out; have := HK2.out; have := HJ111.out; have := HK4.out; omega⟩, ⟨Rl_ HO_179.out⟩, ⟨Bl_ HB⟩⟩
           as_aux_lemma =>
           rw [if_neg c116] at H
           have c116b0 : (x23_111 == x24_4) = false := beq_eq_false_iff_ne.mpr c116
           have c116b1 : (x23_111 != x24_4) = true := bne_iff_ne.mpr c116
           by_cases c120 : x23_111 = (wrap64 (x24_4 + 1))
           rotate_left
           ·rw [if_neg c120] at H
            have c120b0 : (x23_111 == (wrap64 (x24_4 + 1))) = false := beq_eq_false_iff_ne.mpr c120
            have c120b1 : (x23_111 != (wrap64 (x24_4 + 1))) = true := bne_iff_ne.mpr c120
            replace H := Option.bind_eq_some_iff.mp H
            obtain ⟨⟨t539, t540⟩, A1240, H⟩ := H
            (try dsimp only at H)
            have A124 := Aside0.mk A1240
            clear A1240
            by_cases c125 : t540 = true
            rotate_left
            ·replace c125 := Bool.eq_false_iff.mpr c125
             subst c125
             rw [if_neg (show ¬ (false = true) by decide)] at H
             exact absurd H (by simp)
            subst c125
            rw [if_pos rfl] at H
            by_cases c126 : t539 = true
            rotate_left
            ·replace c126 := Bool.eq_false_iff.mpr c126
             subst c126
             rw [if_neg (show ¬ (false = true) by decide)] at H
             exact absurd H (by simp)
            subst c126
            rw [if_pos rfl] at H
            have H' := Aside0.mk H
            clear H
            go_wp2_with (first | ((with_reducible refine gate_callee (f := 6) rfl ?_); refine gl_ (some 219) rfl rfl Try.func6 (by kernel_rfl) rfl #[.int .i64 t507, .int .i64 x23_111, .int .i64 t509, .int .i64 (wrap64 (t510 - 2))] rfl ?_; (with_reducible refine (impl_PlaceWinner.calls k4 t507 x23_111 t509 (wrap64 (t510 - 2)) true true _ A124.out).mono ?_); rintro e w' ⟨rfl, ⟨nd, rfl⟩⟩; refine ⟨_, rfl, ?_⟩))
            go_roundg k4
            case measure => have := HJ11.out; have := HK2.out; have := HJ111.out; have := HK4.out; omega
            case rel => exact ⟨(wrap64 (x24_4 + 1)), (by first | rfl | (simp; done) | (simp [*]; done)), H', ⟨by have := HJ11.out; have := HK2.out; have := HJ111.out; have := HK4.out; omega⟩, ⟨Rl_ HO_179.out⟩, ⟨Bl_ HB⟩⟩
           rw [if_pos c120] at H
           have c120b0 : (x23_111 == (wrap64 (x24_4 + 1))) = true := beq_iff_eq.mpr c120
           have c120b1 : (x23_111 != (wrap64 (x24_4 + 1))) = false := bne_eq_false_iff_eq.mpr c120
           clear c120
           replace H := Option.bind_eq_some_iff.mp H
           obtain ⟨⟨t537, t538⟩, A1210, H⟩ := H
           (try dsimp only at H)
           have A121 := Aside0.mk A1210
           clear A1210
           by_cases c122 : t538 = true
           rotate_left
           ·replace c122 := Bool.eq_false_iff.mpr c122
            subst c122
            rw [if_neg (show ¬ (false = true) by decide)] at H
            exact absurd H (by simp)
           subst c122
           rw [if_pos rfl] at H
           by_cases c123 : t537 = true
           rotate_left
           ·replace c123 := Bool.eq_false_iff.mpr c123
            subst c123
            rw [if_neg (show ¬ (false = true) by decide)] at H
            exact absurd H (by simp)
           subst c123
           rw [if_pos rfl] at H
           have H' := Aside0.mk H
           clear H
           go_wp2_with (first | ((with_reducible refine gate_callee (f := 6) rfl ?_); refine gl_ (some 219) rfl rfl Try.func6 (by kernel_rfl) rfl #[.int .i64 t507, .int .i64 x24_4, .int .i64 t509, .int .i64 (wrap64 (t510 - 2))] rfl ?_; (with_reducible refine (impl_PlaceWinner.calls k4 t507 x24_4 t509 (wrap64 (t510 - 2)) true true _ A121.out).mono ?_); rintro e w' ⟨rfl, ⟨nd, rfl⟩⟩; refine ⟨_, rfl, ?_⟩))
           go_roundg k4
           case measure => have := HJ11.out; have := HK2.out; have := HJ111.out; have := HK4.out; omega
           case rel => exact ⟨(wrap64 (x24_4 + 1)), (by first | rfl | (simp; done) | (simp [*]; done)), H', ⟨by have := HJ11.out; have := HK2.out; have := HJ111.out; have := HK4.out; omega⟩, ⟨Rl_ HO_179.out⟩, ⟨Bl_ HB⟩⟩
    as_aux_lemma =>
    rw [if_neg c105] at H
    have c105b0 : decide (0 < t510) = false := decide_eq_false c105
    clear c105
    by_cases c128 : t510 ≥ 2
    rotate_left
    ·rw [if_neg c128] at H
     have c128b0 : decide (2 ≤ t510) = false := decide_eq_false c128
     clear c128
     have H' := Aside0.mk H
     clear H
     go_wp2
     go_meet
     case rel => exact ⟨_, H', ⟨by have := HJ11.out; first | omega | exact Nat.le_refl _⟩, ⟨Bl_ HB⟩⟩
    rw [if_pos c128] at H
    have c128b0 : decide (2 ≤ t510) = true := decide_eq_true c128
    clear c128
    have H' := Aside0.mk H
    clear H
    obtain ⟨Ao129, co129, eo129⟩ := Kd.R_slice HO_13.out
    subst eo129
    go_wp2
    go_loopg [181] kj11 (fun kq v181 w' => ∃ (x181_2 : Int), v181 = .int .i64 x181_2 ∧ Aside0 (laws_FnPlacesAndLasts.l0 kq l1 t507 t508 t509 t510 t515 (t515.length : Int) x181_2 = some r) ∧ Aside0 (kq ≤ kj11) ∧ Aside0 (Kd.R (Kd.int .i64) 3 w' w.heap.size (fun _ => True) (.slice Ao129 t515.length co129) t515) ∧ Aside0 (Below w.heap.size w w'))
    case atStart => exact ⟨(0), (by first | rfl | (simp; done) | (simp [*]; done)), H', ⟨Nat.le_refl _⟩, ⟨Rl_ HO_13.out⟩, ⟨Bl_ HB⟩⟩
    case round =>
     as_aux_lemma =>
     clear H'
     try clear c1
     try clear c2
     try clear p2
     try clear c3
     try clear c4
     try clear c5
     try clear p5
     try clear q5
     try clear hx5
     try clear c6
     try clear p6
     try clear c7
     try clear c8
     try clear c9
     try clear c10
     try clear c11
     try clear c12
     try clear c19
     try clear c19b0
     try clear c19b1
     try clear c19b2
     try clear c20
     try clear c20b0
     try clear c20b1
     try clear c20b2
     try clear c21
     try clear c21b0
     try clear c21b1
     try clear c21b2
     try clear c23
     try clear c24
     try clear c24b0
     try clear c24b1
     try clear c24b2
     try clear c28
     try clear c29
     try clear c29b0
     try clear c29b1
     try clear c29b2
     try clear c34
     try clear c35
     try clear p53
     try clear q53
     try clear hx53
     try clear c55
     try clear c57
     try clear c58
     try clear c58b0
     try clear c58b1
     try clear c59
     try clear c59b0
     try clear c59b1
     try clear c59b2
     try clear c60
     try clear c60b0
     try clear c60b1
     try clear c61
     try clear c61b0
     try clear c62
     try clear c62b0
     try clear c62b1
     try clear c62b2
     try clear c63
     try clear c63b0
     try clear p64
     try clear c65
     try clear c65b0
     try clear c66
     try clear c66b0
     try clear c67
     try clear c67b0
     try clear c69
     try clear c69b0
     try clear c69b1
     try clear c70
     try clear c70b0
     try clear c70b1
     try clear c71
     try clear c71b0
     try clear c72
     try clear c72b0
     try clear c72b1
     try clear c74
     try clear c75
     try clear c76
     try clear c76b0
     try clear c76b1
     try clear c78
     try clear c79
     try clear c81
     try clear c82
     try clear c84
     try clear c84b0
     try clear c86
     try clear c86b0
     try clear c87
     try clear c87b0
     try clear c88
     try clear c88b0
     try clear c90
     try clear c90b0
     try clear c90b1
     try clear c91
     try clear c91b0
     try clear c91b1
     try clear c92
     try clear c92b0
     try clear c93
     try clear c93b0
     try clear c93b1
     try clear c95
     try clear c96
     try clear c97
     try clear c97b0
     try clear c97b1
     try clear c99
     try clear c100
     try clear c102
     try clear c103
     try clear c105
     try clear c105b0
     try clear c106
     try clear c106b0
     try clear c106b1
     try clear c106b2
     try clear c107
     try clear c107b0
     try clear c109
     try clear c109b0
     try clear c110
     try clear c110b0
     try clear c111
     try clear c111b0
     try clear c113
     try clear c113b0
     try clear c113b1
     try clear c114
     try clear c114b0
     try clear c114b1
     try clear c115
     try clear c115b0
     try clear c116
     try clear c116b0
     try clear c116b1
     try clear c118
     try clear c119
     try clear c120
     try clear c120b0
     try clear c120b1
     try clear c122
     try clear c123
     try clear c125
     try clear c126
     try clear c128
     try clear c128b0
     try clear hx534_0
     try clear p2
     try clear p5
     try clear p53
     try clear p534
     try clear p6
     try clear p64
     try clear q5
     try clear q53
     try clear q534
     obtain ⟨x181_2, rfl, HA, HK2, HO_179, HB⟩ := hrel
     cases gk with
     | zero => exact absurd HA.out (by simp [laws_FnPlacesAndLasts.l0])
     | succ k2 =>
      have H := HA.out
      clear HA
      simp only [laws_FnPlacesAndLasts.l0] at H
      by_cases c130 : x181_2 < (t515.length : Int)
      rotate_left
      ·rw [if_neg c130] at H
       have c130b0 : decide (x181_2 < (t515.length : Int)) = false := decide_eq_false c130
       clear c130
       have H' := Aside0.mk H
       clear H
       go_wp2
       go_meet
       case rel => exact ⟨_, H', ⟨by have := HJ11.out; have := HK2.out; first | omega | exact Nat.le_refl _⟩, ⟨Bl_ HB⟩⟩
      rw [if_pos c130] at H
      have c130b0 : decide (x181_2 < (t515.length : Int)) = true := decide_eq_true c130
      clear c130
      by_cases c131 : 0 ≤ x181_2
      rotate_left
      ·rw [if_neg c131] at H
       exact absurd H (by simp)
      rw [if_pos c131] at H
      have c131b0 : decide (0 ≤ x181_2) = true := decide_eq_true c131
      clear c131
      by_cases c132 : x181_2 < (t515.length : Int)
      rotate_left
      ·rw [if_neg c132] at H
       exact absurd H (by simp)
      rw [if_pos c132] at H
      have c132b0 : decide (x181_2 < (t515.length : Int)) = true := decide_eq_true c132
      clear c132
      have HC133 := Aside0.mk H
      clear H
      have p534 : 0 ≤ (x181_2 : Int) := of_decide_eq_true (by first | (with_reducible assumption) | assumption)
      have q534 : x181_2 < (t515.length : Int) := of_decide_eq_true (by first | (with_reducible assumption) | assumption)
      obtain ⟨ad534, e534, hx534_0⟩ := Kd.at_int (Kd.R_reads' HO_179.out).2.2 x181_2 p534 q534
      cases e534
      replace p534 := eq_true p534
      replace q534 := eq_true q534
      go_upto_if 188 with (fail)
      go_cut [23] (fun v23 wc => ∃ (kq : Nat) (x23_132 : Int), v23 = .int .i64 x23_132 ∧ Aside0 (laws_FnPlacesAndLasts.j2 kq l1 t507 t508 t509 t510 x23_132 t515 (t515.length : Int) x181_2 = some r) ∧ Aside0 (kq ≤ k2) ∧ Aside0 (Kd.R (Kd.int .i64) 3 wc w.heap.size (fun _ => True) (.slice (some ad534) t515.length co129) t515) ∧ Aside0 (Below w.heap.size w wc))
      case first =>
       have H := HC133.out
       clear HC133
       by_cases c134 : t508 = (rd t515 x181_2)
       ·rw [if_pos c134] at H
        have c134b0 : (t508 == (rd t515 x181_2)) = true := beq_iff_eq.mpr c134
        have c134b1 : (t508 != (rd t515 x181_2)) = false := bne_eq_false_iff_eq.mpr c134
        clear c134
        (first | rw [c134b0] | (simp only [i64_w, i32_w]; rw [c134b0]) | skip)
        have H' := Aside0.mk H
        clear H
        go_wp2
        go_meet
        case rel => exact ⟨_, (wrap64 ((rd t515 x181_2) + 1)), (by first | rfl | (simp; done) | (simp [*]; done)), H', ⟨by have := HJ11.out; have := HK2.out; first | omega | exact Nat.le_refl _⟩, ⟨Rl_ HO_179.out⟩, ⟨Bl_ HB⟩⟩
       rw [if_neg c134] at H
       have c134b0 : (t508 == (rd t515 x181_2)) = false := beq_eq_false_iff_ne.mpr c134
       have c134b1 : (t508 != (rd t515 x181_2)) = true := bne_iff_ne.mpr c134
       (first | rw [c134b0] | (simp only [i64_w, i32_w]; rw [c134b0]) | skip)
       by_cases c135 : t508 = (wrap64 ((rd t515 x181_2) + 1))
       rotate_left
       ·rw [if_neg c135] at H
        have c135b0 : (t508 == (wrap64 ((rd t515 x181_2) + 1))) = false := beq_eq_false_iff_ne.mpr c135
        have c135b1 : (t508 != (wrap64 ((rd t515 x181_2) + 1))) = true := bne_iff_ne.mpr c135
        have H' := Aside0.mk H
        clear H
        go_wp2
        go_meet
        case rel => exact ⟨_, (t508), (by first | rfl | (simp; done) | (simp [*]; done)), H', ⟨by have := HJ11.out; have := HK2.out; first | omega | exact Nat.le_refl _⟩, ⟨Rl_ HO_179.out⟩, ⟨Bl_ HB⟩⟩
       rw [if_pos c135] at H
       have c135b0 : (t508 == (wrap64 ((rd t515 x181_2) + 1))) = true := beq_iff_eq.mpr c135
       have c135b1 : (t508 != (wrap64 ((rd t515 x181_2) + 1))) = false := bne_eq_false_iff_eq.mpr c135
       clear c135
       have H' := Aside0.mk H
       clear H
       go_wp2
       go_meet
       case rel => exact ⟨_, (rd t515 x181_2), (by first | rfl | (simp; done) | (simp [*]; done)), H', ⟨by have := HJ11.out; have := HK2.out; first | omega | exact Nat.le_refl _⟩, ⟨Rl_ HO_179.out⟩, ⟨Bl_ HB⟩⟩
      case rest =>
       as_aux_lemma =>
       clear HC133
       try clear c1
       try clear c2
       try clear p2
       try clear c3
       try clear c4
       try clear c5
       try clear p5
       try clear q5
       try clear hx5
       try clear c6
       try clear p6
       try clear c7
       try clear c8
       try clear c9
       try clear c10
       try clear c11
       try clear c12
       try clear c13
       try clear c19
       try clear c19b0
       try clear c19b1
       try clear c19b2
       try clear c20
       try clear c20b0
       try clear c20b1
       try clear c20b2
       try clear c21
       try clear c21b0
       try clear c21b1
       try clear c21b2
       try clear c23
       try clear c24
       try clear c24b0
       try clear c24b1
       try clear c24b2
       try clear c28
       try clear c29
       try clear c29b0
       try clear c29b1
       try clear c29b2
       try clear c34
       try clear c35
       try clear p53
       try clear q53
       try clear hx53
       try clear c55
       try clear c57
       try clear c58
       try clear c58b0
       try clear c58b1
       try clear c59
       try clear c59b0
       try clear c59b1
       try clear c59b2
       try clear c60
       try clear c60b0
       try clear c60b1
       try clear c61
       try clear c61b0
       try clear c62
       try clear c62b0
       try clear c62b1
       try clear c62b2
       try clear c63
       try clear c63b0
       try clear p64
       try clear c65
       try clear c65b0
       try clear c66
       try clear c66b0
       try clear c67
       try clear c67b0
       try clear c69
       try clear c69b0
       try clear c69b1
       try clear c70
       try clear c70b0
       try clear c70b1
       try clear c71
       try clear c71b0
       try clear c72
       try clear c72b0
       try clear c72b1
       try clear c74
       try clear c75
       try clear c76
       try clear c76b0
       try clear c76b1
       try clear c78
       try clear c79
       try clear c81
       try clear c82
       try clear c84
       try clear c84b0
       try clear c86
       try clear c86b0
       try clear c87
       try clear c87b0
       try clear c88
       try clear c88b0
       try clear c90
       try clear c90b0
       try clear c90b1
       try clear c91
       try clear c91b0
       try clear c91b1
       try clear c92
       try clear c92b0
       try clear c93
       try clear c93b0
       try clear c93b1
       try clear c95
       try clear c96
       try clear c97
       try clear c97b0
       try clear c97b1
       try clear c99
       try clear c100
       try clear c102
       try clear c103
       try clear c105
       try clear c105b0
       try clear c106
       try clear c106b0
       try clear c106b1
       try clear c106b2
       try clear c107
       try clear c107b0
       try clear c109
       try clear c109b0
       try clear c110
       try clear c110b0
       try clear c111
       try clear c111b0
       try clear c113
       try clear c113b0
       try clear c113b1
       try clear c114
       try clear c114b0
       try clear c114b1
       try clear c115
       try clear c115b0
       try clear c116
       try clear c116b0
       try clear c116b1
       try clear c118
       try clear c119
       try clear c120
       try clear c120b0
       try clear c120b1
       try clear c122
       try clear c123
       try clear c125
       try clear c126
       try clear c128
       try clear c128b0
       try clear c130
       try clear c130b0
       try clear c131
       try clear c131b0
       try clear c132
       try clear c132b0
       try clear c134
       try clear c134b0
       try clear c134b1
       try clear c135
       try clear c135b0
       try clear c135b1
       try clear hx534_0
       try clear p2
       try clear p5
       try clear p53
       try clear p534
       try clear p6
       try clear p64
       try clear q5
       try clear q53
       try clear q534
       obtain ⟨kq, x23_132, rfl, HA, HJ132, HO_179, HB⟩ := hcut
       cases kq with
       | zero => exact absurd HA.out (by simp [laws_FnPlacesAndLasts.j2])
       | succ kj132 =>
        have H := HA.out
        clear HA
        simp only [laws_FnPlacesAndLasts.j2] at H
        have H' := Aside0.mk H
        clear H
        go_wp2
        go_loopg [24] kj132 (fun kq v24 w' => ∃ (x24_4 : Int), v24 = .int .i64 x24_4 ∧ Aside0 (laws_FnPlacesAndLasts.l1 kq l1 t507 t508 t509 t510 x23_132 x24_4 t515 (t515.length : Int) x181_2 = some r) ∧ Aside0 (kq ≤ kj132) ∧ Aside0 (Kd.R (Kd.int .i64) 3 w' w.heap.size (fun _ => True) (.slice (some ad534) t515.length co129) t515) ∧ Aside0 (Below w.heap.size w w'))
        case atStart => exact ⟨(0), (by first | rfl | (simp; done) | (simp [*]; done)), H', ⟨Nat.le_refl _⟩, ⟨Rl_ HO_179.out⟩, ⟨Bl_ HB⟩⟩
        case round =>
         as_aux_lemma =>
         clear H'
         try clear c1
         try clear c2
         try clear p2
         try clear c3
         try clear c4
         try clear c5
         try clear p5
         try clear q5
         try clear hx5
         try clear c6
         try clear p6
         try clear c7
         try clear c8
         try clear c9
         try clear c10
         try clear c11
         try clear c12
         try clear c13
         try clear c19
         try clear c19b0
         try clear c19b1
         try clear c19b2
         try clear c20
         try clear c20b0
         try clear c20b1
         try clear c20b2
         try clear c21
         try clear c21b0
         try clear c21b1
         try clear c21b2
         try clear c23
         try clear c24
         try clear c24b0
         try clear c24b1
         try clear c24b2
         try clear c28
         try clear c29
         try clear c29b0
         try clear c29b1
         try clear c29b2
         try clear c34
         try clear c35
         try clear p53
         try clear q53
         try clear hx53
         try clear c55
         try clear c57
         try clear c58
         try clear c58b0
         try clear c58b1
         try clear c59
         try clear c59b0
         try clear c59b1
         try clear c59b2
         try clear c60
         try clear c60b0
         try clear c60b1
         try clear c61
         try clear c61b0
         try clear c62
         try clear c62b0
         try clear c62b1
         try clear c62b2
         try clear c63
         try clear c63b0
         try clear p64
         try clear c65
         try clear c65b0
         try clear c66
         try clear c66b0
         try clear c67
         try clear c67b0
         try clear c69
         try clear c69b0
         try clear c69b1
         try clear c70
         try clear c70b0
         try clear c70b1
         try clear c71
         try clear c71b0
         try clear c72
         try clear c72b0
         try clear c72b1
         try clear c74
         try clear c75
         try clear c76
         try clear c76b0
         try clear c76b1
         try clear c78
         try clear c79
         try clear c81
         try clear c82
         try clear c84
         try clear c84b0
         try clear c86
         try clear c86b0
         try clear c87
         try clear c87b0
         try clear c88
         try clear c88b0
         try clear c90
         try clear c90b0
         try clear c90b1
         try clear c91
         try clear c91b0
         try clear c91b1
         try clear c92
         try clear c92b0
         try clear c93
         try clear c93b0
         try clear c93b1
         try clear c95
         try clear c96
         try clear c97
         try clear c97b0
         try clear c97b1
         try clear c99
         try clear c100
         try clear c102
         try clear c103
         try clear c105
         try clear c105b0
         try clear c106
         try clear c106b0
         try clear c106b1
         try clear c106b2
         try clear c107
         try clear c107b0
         try clear c109
         try clear c109b0
         try clear c110
         try clear c110b0
         try clear c111
         try clear c111b0
         try clear c113
         try clear c113b0
         try clear c113b1
         try clear c114
         try clear c114b0
         try clear c114b1
         try clear c115
         try clear c115b0
         try clear c116
         try clear c116b0
         try clear c116b1
         try clear c118
         try clear c119
         try clear c120
         try clear c120b0
         try clear c120b1
         try clear c122
         try clear c123
         try clear c125
         try clear c126
         try clear c128
         try clear c128b0
         try clear c130
         try clear c130b0
         try clear c131
         try clear c131b0
         try clear c132
         try clear c132b0
         try clear c134
         try clear c134b0
         try clear c134b1
         try clear c135
         try clear c135b0
         try clear c135b1
         try clear hx534_0
         try clear p2
         try clear p5
         try clear p53
         try clear p534
         try clear p6
         try clear p64
         try clear q5
         try clear q53
         try clear q534
         obtain ⟨x24_4, rfl, HA, HK4, HO_179, HB⟩ := hrel
         cases gk with
         | zero => exact absurd HA.out (by simp [laws_FnPlacesAndLasts.l1])
         | succ k4 =>
          have H := HA.out
          clear HA
          simp only [laws_FnPlacesAndLasts.l1] at H
          by_cases c136 : x24_4 < (wrap64 (t507 - 1))
          rotate_left
          ·rw [if_neg c136] at H
           have c136b0 : decide (x24_4 < (wrap64 (t507 - 1))) = false := decide_eq_false c136
           clear c136
           have H' := Aside0.mk H
           clear H
           go_wp2
           go_roundg k4
           case measure => have := HJ11.out; have := HK2.out; have := HJ132.out; have := HK4.out; omega
           case rel => exact ⟨(wrap64 (x181_2 + 1)), (by first | rfl | (simp; done) | (simp [*]; done)), H', ⟨by have := HJ11.out; have := HK2.out; have := HJ132.out; have := HK4.out; omega⟩, ⟨Rl_ HO_179.out⟩, ⟨Bl_ HB⟩⟩
          rw [if_pos c136] at H
          have c136b0 : decide (x24_4 < (wrap64 (t507 - 1))) = true := decide_eq_true c136
          clear c136
          by_cases c137 : x23_132 = x24_4
          ·rw [if_pos c137] at H
           have c137b0 : (x23_132 == x24_4) = true := beq_iff_eq.mpr c137
           have c137b1 : (x23_132 != x24_4) = false := bne_eq_false_iff_eq.mpr c137
           clear c137
           replace H := Option.bind_eq_some_iff.mp H
           obtain ⟨⟨t535, t536⟩, A1380, H⟩ := H
           (try dsimp only at H)
           have A138 := Aside0.mk A1380
           clear A1380
           by_cases c139 : t536 = true
           rotate_left
           ·replace c139 := Bool.eq_false_iff.mpr c139
            subst c139
            rw [if_neg (show ¬ (false = true) by decide)] at H
            exact absurd H (by simp)
           subst c139
           rw [if_pos rfl] at H
           by_cases c140 : t535 = true
           rotate_left
           ·replace c140 := Bool.eq_false_iff.mpr c140
            subst c140
            rw [if_neg (show ¬ (false = true) by decide)] at H
            exact absurd H (by simp)
           subst c140
           rw [if_pos rfl] at H
           have H' := Aside0.mk H
           clear H
           go_wp2_with (first | ((with_reducible refine gate_callee (f := 6) rfl ?_); refine gl_ (some 219) rfl rfl Try.func6 (by kernel_rfl) rfl #[.int .i64 t507, .int .i64 (wrap64 (x24_4 + 1)), .int .i64 t509, .int .i64 (wrap64 (t510 - 2))] rfl ?_; (with_reducible refine (impl_PlaceWinner.calls k4 t507 (wrap64 (x24_4 + 1)) t509 (wrap64 (t510 - 2)) true true _ A138.out).mono ?_); rintro e w' ⟨rfl, ⟨nd, rfl⟩⟩; refine ⟨_, rfl, ?_⟩))
           go_roundg k4
           case measure => have := HJ11.out; have := HK2.out; have := HJ132.out; have := HK4.out; omega
           case rel => exact ⟨(wrap64 (x24_4 + 1)), (by first | rfl | (simp; done) | (simp [*]; done)), H', ⟨by have := HJ11.out; have := HK2.out; have := HJ132.out; have := HK4.out; omega⟩, ⟨Rl_ HO_179.out⟩, ⟨Bl_ HB⟩⟩
          as_aux_lemma =>
          rw [if_neg c137] at H
          have c137b0 : (x23_132 == x24_4) = false := beq_eq_false_iff_ne.mpr c137
          have c137b1 : (x23_132 != x24_4) = true := bne_iff_ne.mpr c137
          by_cases c141 : x23_132 = (wrap64 (x24_4 + 1))
          rotate_left
          ·rw [if_neg c141] at H
           have c141b0 : (x23_132 == (wrap64 (x24_4 + 1))) = false := beq_eq_false_iff_ne.mpr c141
           have c141b1 : (x23_132 != (wrap64 (x24_4 + 1))) = true := bne_iff_ne.mpr c141
           replace H := Option.bind_eq_some_iff.mp H
           obtain ⟨⟨t539, t540⟩, A1450, H⟩ := H
           (try dsimp only at H)
           have A145 := Aside0.mk A1450
           clear A1450
           by_cases c146 : t540 = true
           rotate_left
           ·replace c146 := Bool.eq_false_iff.mpr c146
            subst c146
            rw [if_neg (show ¬ (false = true) by decide)] at H
            exact absurd H (by simp)
           subst c146
           rw [if_pos rfl] at H
           by_cases c147 : t539 = true
           rotate_left
           ·replace c147 := Bool.eq_false_iff.mpr c147
            subst c147
            rw [if_neg (show ¬ (false = true) by decide)] at H
            exact absurd H (by simp)
           subst c147
           rw [if_pos rfl] at H
           have H' := Aside0.mk H
           clear H
           go_wp2_with (first | ((with_reducible refine gate_callee (f := 6) rfl ?_); refine gl_ (some 219) rfl rfl Try.func6 (by kernel_rfl) rfl #[.int .i64 t507, .int .i64 x23_132, .int .i64 t509, .int .i64 (wrap64 (t510 - 2))] rfl ?_; (with_reducible refine (impl_PlaceWinner.calls k4 t507 x23_132 t509 (wrap64 (t510 - 2)) true true _ A145.out).mono ?_); rintro e w' ⟨rfl, ⟨nd, rfl⟩⟩; refine ⟨_, rfl, ?_⟩))
           go_roundg k4
           case measure => have := HJ11.out; have := HK2.out; have := HJ132.out; have := HK4.out; omega
           case rel => exact ⟨(wrap64 (x24_4 + 1)), (by first | rfl | (simp; done) | (simp [*]; done)), H', ⟨by have := HJ11.out; have := HK2.out; have := HJ132.out; have := HK4.out; omega⟩, ⟨Rl_ HO_179.out⟩, ⟨Bl_ HB⟩⟩
          rw [if_pos c141] at H
          have c141b0 : (x23_132 == (wrap64 (x24_4 + 1))) = true := beq_iff_eq.mpr c141
          have c141b1 : (x23_132 != (wrap64 (x24_4 + 1))) = false := bne_eq_false_iff_eq.mpr c141
          clear c141
          replace H := Option.bind_eq_some_iff.mp H
          obtain ⟨⟨t537, t538⟩, A1420, H⟩ := H
          (try dsimp only at H)
          have A142 := Aside0.mk A1420
          clear A1420
          by_cases c143 : t538 = true
          rotate_left
          ·replace c143 := Bool.eq_false_iff.mpr c143
           subst c143
           rw [if_neg (show ¬ (false = true) by decide)] at H
           exact absurd H (by simp)
          subst c143
          rw [if_pos rfl] at H
          by_cases c144 : t537 = true
          rotate_left
          ·replace c144 := Bool.eq_false_iff.mpr c144
           subst c144
           rw [if_neg (show ¬ (false = true) by decide)] at H
           exact absurd H (by simp)
          subst c144
          rw [if_pos rfl] at H
          have H' := Aside0.mk H
          clear H
          go_wp2_with (first | ((with_reducible refine gate_callee (f := 6) rfl ?_); refine gl_ (some 219) rfl rfl Try.func6 (by kernel_rfl) rfl #[.int .i64 t507, .int .i64 x24_4, .int .i64 t509, .int .i64 (wrap64 (t510 - 2))] rfl ?_; (with_reducible refine (impl_PlaceWinner.calls k4 t507 x24_4 t509 (wrap64 (t510 - 2)) true true _ A142.out).mono ?_); rintro e w' ⟨rfl, ⟨nd, rfl⟩⟩; refine ⟨_, rfl, ?_⟩))
          go_roundg k4
          case measure => have := HJ11.out; have := HK2.out; have := HJ132.out; have := HK4.out; omega
          case rel => exact ⟨(wrap64 (x24_4 + 1)), (by first | rfl | (simp; done) | (simp [*]; done)), H', ⟨by have := HJ11.out; have := HK2.out; have := HJ132.out; have := HK4.out; omega⟩, ⟨Rl_ HO_179.out⟩, ⟨Bl_ HB⟩⟩
   case rest =>
    as_aux_lemma =>
    clear HC56
    try clear c1
    try clear c2
    try clear p2
    try clear c3
    try clear c4
    try clear c5
    try clear p5
    try clear q5
    try clear hx5
    try clear c6
    try clear p6
    try clear c7
    try clear c8
    try clear c9
    try clear c10
    try clear c11
    try clear c12
    try clear c13
    try clear c14
    try clear c19
    try clear c19b0
    try clear c19b1
    try clear c19b2
    try clear c20
    try clear c20b0
    try clear c20b1
    try clear c20b2
    try clear c21
    try clear c21b0
    try clear c21b1
    try clear c21b2
    try clear c23
    try clear c24
    try clear c24b0
    try clear c24b1
    try clear c24b2
    try clear c28
    try clear c29
    try clear c29b0
    try clear c29b1
    try clear c29b2
    try clear c34
    try clear c35
    try clear p53
    try clear q53
    try clear hx53
    try clear c55
    try clear c57
    try clear c58
    try clear c58b0
    try clear c58b1
    try clear c59
    try clear c59b0
    try clear c59b1
    try clear c59b2
    try clear c60
    try clear c60b0
    try clear c60b1
    try clear c61
    try clear c61b0
    try clear c62
    try clear c62b0
    try clear c62b1
    try clear c62b2
    try clear c63
    try clear c63b0
    try clear p64
    try clear c65
    try clear c65b0
    try clear c66
    try clear c66b0
    try clear c67
    try clear c67b0
    try clear c69
    try clear c69b0
    try clear c69b1
    try clear c70
    try clear c70b0
    try clear c70b1
    try clear c71
    try clear c71b0
    try clear c72
    try clear c72b0
    try clear c72b1
    try clear c74
    try clear c75
    try clear c76
    try clear c76b0
    try clear c76b1
    try clear c78
    try clear c79
    try clear c81
    try clear c82
    try clear c84
    try clear c84b0
    try clear c86
    try clear c86b0
    try clear c87
    try clear c87b0
    try clear c88
    try clear c88b0
    try clear c90
    try clear c90b0
    try clear c90b1
    try clear c91
    try clear c91b0
    try clear c91b1
    try clear c92
    try clear c92b0
    try clear c93
    try clear c93b0
    try clear c93b1
    try clear c95
    try clear c96
    try clear c97
    try clear c97b0
    try clear c97b1
    try clear c99
    try clear c100
    try clear c102
    try clear c103
    try clear c105
    try clear c105b0
    try clear c106
    try clear c106b0
    try clear c106b1
    try clear c106b2
    try clear c107
    try clear c107b0
    try clear c109
    try clear c109b0
    try clear c110
    try clear c110b0
    try clear c111
    try clear c111b0
    try clear c113
    try clear c113b0
    try clear c113b1
    try clear c114
    try clear c114b0
    try clear c114b1
    try clear c115
    try clear c115b0
    try clear c116
    try clear c116b0
    try clear c116b1
    try clear c118
    try clear c119
    try clear c120
    try clear c120b0
    try clear c120b1
    try clear c122
    try clear c123
    try clear c125
    try clear c126
    try clear c128
    try clear c128b0
    try clear c130
    try clear c130b0
    try clear c131
    try clear c131b0
    try clear c132
    try clear c132b0
    try clear c134
    try clear c134b0
    try clear c134b1
    try clear c135
    try clear c135b0
    try clear c135b1
    try clear c136
    try clear c136b0
    try clear c137
    try clear c137b0
    try clear c137b1
    try clear c139
    try clear c140
    try clear c141
    try clear c141b0
    try clear c141b1
    try clear c143
    try clear c144
    try clear c146
    try clear c147
    try clear hx534_0
    try clear p2
    try clear p5
    try clear p53
    try clear p534
    try clear p6
    try clear p64
    try clear q5
    try clear q53
    try clear q534
    obtain ⟨kq, HA, HJ55, HB⟩ := hcut
    cases kq with
    | zero => exact absurd HA.out (by simp [laws_FnPlacesAndLasts.j4])
    | succ kj55 =>
     have H := HA.out
     clear HA
     simp only [laws_FnPlacesAndLasts.j4] at H
     replace H := Option.bind_eq_some_iff.mp H
     obtain ⟨⟨t541, t542⟩, A1480, H⟩ := H
     (try dsimp only at H)
     have A148 := Aside0.mk A1480
     clear A1480
     replace H := Option.bind_eq_some_iff.mp H
     obtain ⟨⟨t546, t549⟩, A1490, H⟩ := H
     (try dsimp only at H)
     have A149 := Aside0.mk A1490
     clear A1490
     replace H := Option.bind_eq_some_iff.mp H
     obtain ⟨⟨t550, t553⟩, A1500, H⟩ := H
     (try dsimp only at H)
     have A150 := Aside0.mk A1500
     clear A1500
     replace H := Option.bind_eq_some_iff.mp H
     obtain ⟨⟨t554, t555⟩, A1510, H⟩ := H
     (try dsimp only at H)
     have A151 := Aside0.mk A1510
     clear A1510
     replace H := Option.bind_eq_some_iff.mp H
     obtain ⟨⟨t556, t557⟩, A1520, H⟩ := H
     (try dsimp only at H)
     have A152 := Aside0.mk A1520
     clear A1520
     by_cases c153 : (t549 != t553) = true
     ·rw [if_pos c153] at H
      exact absurd H (by simp)
     rw [if_neg c153] at H
     have c153b0 : (t549 != t553) = false := by simpa using c153
     (try (have c153b1 : decide (t549 = t553) = true := by simpa using c153))
     (try (have c153b2 : (t549 == t553) = true := by simpa using c153))
     clear c153
     replace H := Option.bind_eq_some_iff.mp H
     obtain ⟨t558, A1540, H⟩ := H
     (try dsimp only at H)
     have A154 := Aside0.mk A1540
     clear A1540
     by_cases c155 : t558 = true
     rotate_left
     ·replace c155 := Bool.eq_false_iff.mpr c155
      subst c155
      rw [if_neg (show ¬ (false = true) by decide)] at H
      exact absurd H (by simp)
     subst c155
     rw [if_pos rfl] at H
     by_cases c156 : (t555 != t557) = true
     ·rw [if_pos c156] at H
      exact absurd H (by simp)
     rw [if_neg c156] at H
     have c156b0 : (t555 != t557) = false := by simpa using c156
     (try (have c156b1 : decide (t555 = t557) = true := by simpa using c156))
     (try (have c156b2 : (t555 == t557) = true := by simpa using c156))
     clear c156
     by_cases c157 : (t554 != t556) = true
     ·rw [if_pos c157] at H
      exact absurd H (by simp)
     rw [if_neg c157] at H
     have c157b0 : (t554 != t556) = false := by simpa using c157
     (try (have c157b1 : decide (t554 = t556) = true := by simpa using c157))
     (try (have c157b2 : (t554 == t556) = true := by simpa using c157))
     clear c157
     by_cases c158 : (t555 != t549) = true
     ·rw [if_pos c158] at H
      exact absurd H (by simp)
     rw [if_neg c158] at H
     have c158b0 : (t555 != t549) = false := by simpa using c158
     (try (have c158b1 : decide (t555 = t549) = true := by simpa using c158))
     (try (have c158b2 : (t555 == t549) = true := by simpa using c158))
     clear c158
     by_cases c159 : t549 = true
     rotate_left
     ·replace c159 := Bool.eq_false_iff.mpr c159
      subst c159
      rw [if_neg (show ¬ (false = true) by decide)] at H
      obtain rfl := Option.some.inj H
      go_wp2_with (first | ((with_reducible refine gate_callee (f := 14) rfl ?_); refine gl_ (some 230) rfl rfl Try.func14 (by kernel_rfl) rfl #[.slice A1 l1.length c1] rfl ?_; (with_reducible refine (spec_DrawLastMoves.calls kj55 _ _ l1 t541 t542 _ ?side1 ?side2 A148.out).mono ?_); (case side1 => exact Cl_ (Kd.C_below HR1.out HB.out)); (case side2 => exact HC1.out); rintro e w251 ⟨v543, rfl, ho0, hb⟩; refine ⟨_, rfl, ?_⟩; have HO544 := Aside0.mk (Kd.R_lower ho0 (below_size (Bl_ HB))); replace HB := Aside0.mk (below_step (Bl_ HB) hb); (try clear hb); (try clear hb2); (try clear hk); (try clear hi); (try clear ho0)) | ((with_reducible refine gate_dst (N := 28) rfl ?_); (try (refine gate_guard (by rfl) ?_; dsimp only)); refine box_event ?hg (N := 28) ?hd (cs := #[.int .i64 0, .slice none 0 0]) (t := 35) ?hr ?_; (case hd => rfl); (case hg => rfl); (case hr => first | (go_simp; done) | (go_simp; rfl)); intro gb545 hg w252 hbox hb; replace HO544 := Aside0.mk (Kd.R_below (Rl_ HO544.out) hb); have BK545 := Aside0.mk (hbox); have GW545 := Aside0.mk ((by rw [hg]; exact (below_size (Bl_ HB)) : w.heap.size ≤ gb545)); have GE545 := Aside0.mk ((by rw [hg]; exact (below_size (Bl_ HB)) : w.heap.size ≤ gb545)); replace HB := Aside0.mk (below_step (Bl_ HB) hb); clear hb hbox hg; have hcz253_0 : w252.cell? ⟨gb545, 0, none⟩ = some (.int .i64 0) := (blk_cell BK545.out 0).trans rfl; have hcz253_1 : w252.cell? ⟨gb545, 1, none⟩ = some (.slice none 0 0) := (blk_cell BK545.out 1).trans rfl; have hfz253_0 := blk_frozen BK545.out 0; have hfz253_1 := blk_frozen BK545.out 1; obtain ⟨Ao254, co254, eo254⟩ := Kd.R_slice HO544.out; subst eo254) | ((with_reducible refine gate_callee (f := 15) rfl ?_); refine gl_ (some 233) rfl rfl Try.func15 (by kernel_rfl) rfl #[.agg #[.int .i64 t541, .slice Ao254 t542.length co254]] rfl ?_; (with_reducible refine (impl_LastMoves.calls kj55 t541 _ _ t542 t546 false _ ?side1 ?side2 A149.out).mono ?_); (case side1 => refine (Kd.R_reads' (e := 3) (base := w.heap.size) (ok := fun k_ => True) (n := t542.length) (c := co254) ?_).2.2; exact (Rl_ (Rf2_ HO544.out BK545.out (by decide) (.int .i64 t541) (.slice Ao254 t542.length co254)))); (case side2 => exact (Kd.R_reads' HO544.out).2.1); rintro e w255 ⟨v547, rfl, ho0, hb⟩; refine ⟨_, rfl, ?_⟩; have HO548 := Aside0.mk (Kd.R_lower (Kd.R_new' ho0 (Kd.R_lt (Rl_ (Rf2_ HO544.out BK545.out (by decide) (.int .i64 t541) (.slice Ao254 t542.length co254))))) (below_size (Bl_ HB))); replace HO544 := Aside0.mk (Kd.R_elder' (Rl_ (Rf2_ HO544.out BK545.out (by decide) (.int .i64 t541) (.slice Ao254 t542.length co254))) (Kd.R_base ho0) hb); replace BK545 := Aside0.mk (blk_below (g := gb545) (o := .cells #[.int .i64 t541, .slice Ao254 t542.length co254] 35 (0, 0)) (by (with_reducible repeat (first | refine blk_drewN ?_ _ | refine blk_drew ?_ | refine blk_alloc ?_ _)); refine blk_put (cs := #[.int .i64 t541, .slice none 0 0]) ?_ 1 _ rfl; (with_reducible repeat (first | refine blk_drewN ?_ _ | refine blk_drew ?_ | refine blk_alloc ?_ _)); refine blk_put (cs := #[.int .i64 0, .slice none 0 0]) ?_ 0 _ rfl; (with_reducible repeat (first | refine blk_drewN ?_ _ | refine blk_drew ?_ | refine blk_alloc ?_ _)); exact BK545.out) hb); replace HB := Aside0.mk (below_step (Bl_ HB) hb); (try clear hb); (try clear hb2); (try clear hk); (try clear hi); (try clear ho0); have hcz256_0 : w255.cell? ⟨gb545, 0, none⟩ = some (.int .i64 t541) := (blk_cell BK545.out 0).trans rfl; have hcz256_1 : w255.cell? ⟨gb545, 1, none⟩ = some (.slice Ao254 t542.length co254) := (blk_cell BK545.out 1).trans rfl; have hfz256_0 := blk_frozen BK545.out 0; have hfz256_1 := blk_frozen BK545.out 1) | ((with_reducible refine gate_callee (f := 16) rfl ?_); refine gl_ (some 238) rfl rfl Try.func16 (by kernel_rfl) rfl #[.agg #[.int .i64 t541, .slice Ao254 t542.length co254]] rfl ?_; (with_reducible refine (spec_LastMoves.calls kj55 t541 _ _ t542 t550 t553 _ ?side1 ?side2 A150.out).mono ?_); (case side1 => exact Cl_ (Kd.R_reads' HO544.out).2.2); (case side2 => exact (Kd.R_reads' HO544.out).2.1); rintro e w257 ⟨v551, rfl, ho0, hb⟩; refine ⟨_, rfl, ?_⟩; have HO552 := Aside0.mk (Kd.R_lower (Kd.R_new' (Kd.R_new' ho0 (Kd.R_lt (Rl_ HO544.out))) (Kd.R_lt (Rl_ HO548.out))) (below_size (Bl_ HB))); replace HO544 := Aside0.mk (Kd.R_elder' (Rl_ HO544.out) (Kd.R_base ho0) hb); replace HO548 := Aside0.mk (Kd.R_elder' (Rl_ HO548.out) (Kd.R_base ho0) hb); replace BK545 := blkB_ BK545 hb; replace HB := Aside0.mk (below_step (Bl_ HB) hb); (try clear hb); (try clear hb2); (try clear hk); (try clear hi); (try clear ho0); have hcz258_0 : w257.cell? ⟨gb545, 0, none⟩ = some (.int .i64 t541) := (blk_cell BK545.out 0).trans rfl; have hcz258_1 : w257.cell? ⟨gb545, 1, none⟩ = some (.slice Ao254 t542.length co254) := (blk_cell BK545.out 1).trans rfl; have hfz258_0 := blk_frozen BK545.out 0; have hfz258_1 := blk_frozen BK545.out 1) | ((with_reducible refine gate_callee (f := 17) rfl ?_); refine gl_ (some 243) rfl rfl Try.func17 (by kernel_rfl) rfl #[.agg #[.int .i64 t541, .slice Ao254 t542.length co254]] rfl ?_; (with_reducible refine (impl_LastWins.calls kj55 t541 _ _ t542 t554 t555 _ ?side1 ?side2 A151.out).mono ?_); (case side1 => exact Cl_ (Kd.R_reads' HO544.out).2.2); (case side2 => exact (Kd.R_reads' HO544.out).2.1); rintro e w259 ⟨rfl, hb⟩; refine ⟨_, rfl, ?_⟩; replace HO544 := Aside0.mk (Kd.R_below (Rl_ HO544.out) hb); replace HO548 := Aside0.mk (Kd.R_below (Rl_ HO548.out) hb); replace HO552 := Aside0.mk (Kd.R_below (Rl_ HO552.out) hb); replace BK545 := blkB_ BK545 hb; replace HB := Aside0.mk (below_step (Bl_ HB) hb); (try clear hb); (try clear hb2); (try clear hk); (try clear hi); have hcz260_0 : w259.cell? ⟨gb545, 0, none⟩ = some (.int .i64 t541) := (blk_cell BK545.out 0).trans rfl; have hcz260_1 : w259.cell? ⟨gb545, 1, none⟩ = some (.slice Ao254 t542.length co254) := (blk_cell BK545.out 1).trans rfl; have hfz260_0 := blk_frozen BK545.out 0; have hfz260_1 := blk_frozen BK545.out 1) | ((with_reducible refine gate_callee (f := 18) rfl ?_); refine gl_ (some 248) rfl rfl Try.func18 (by kernel_rfl) rfl #[.agg #[.int .i64 t541, .slice Ao254 t542.length co254]] rfl ?_; (with_reducible refine (spec_LastWins.calls kj55 t541 _ _ t542 t556 t557 _ ?side1 ?side2 A152.out).mono ?_); (case side1 => exact Cl_ (Kd.R_reads' HO544.out).2.2); (case side2 => exact (Kd.R_reads' HO544.out).2.1); rintro e w261 ⟨rfl, hb⟩; refine ⟨_, rfl, ?_⟩; replace HO544 := Aside0.mk (Kd.R_below (Rl_ HO544.out) hb); replace HO548 := Aside0.mk (Kd.R_below (Rl_ HO548.out) hb); replace HO552 := Aside0.mk (Kd.R_below (Rl_ HO552.out) hb); replace BK545 := blkB_ BK545 hb; replace HB := Aside0.mk (below_step (Bl_ HB) hb); (try clear hb); (try clear hb2); (try clear hk); (try clear hi); obtain ⟨Ao262, co262, eo262⟩ := Kd.R_slice HO548.out; subst eo262; obtain ⟨Ao263, co263, eo263⟩ := Kd.R_slice HO552.out; subst eo263) | (go_at_call 12; (with_reducible refine (laws_nSame.calls kj55 _ _ t546 _ _ t550 true _ ?side1 ?side2 ?side3 ?side4 A154.out).mono ?_); (case side1 => exact Cl_ (Kd.R_reads' HO548.out).2.2); (case side2 => exact (Kd.R_reads' HO548.out).2.1); (case side3 => exact Cl_ (Kd.R_reads' HO552.out).2.2); (case side4 => exact (Kd.R_reads' HO552.out).2.1); rintro e w' ⟨rfl, ⟨nd, rfl⟩⟩))
      go_ret
      exact ⟨by first | rfl | (simp [errW_none, errW_some] <;> rfl) | (simp [*, errW_none, errW_some] <;> rfl), Bl_ HB⟩
     as_aux_lemma =>
     subst c159
     rw [if_pos rfl] at H
     replace H := Option.bind_eq_some_iff.mp H
     obtain ⟨⟨t559, t560⟩, A1600, H⟩ := H
     (try dsimp only at H)
     have A160 := Aside0.mk A1600
     clear A1600
     by_cases c161 : t560 = true
     rotate_left
     ·replace c161 := Bool.eq_false_iff.mpr c161
      subst c161
      rw [if_neg (show ¬ (false = true) by decide)] at H
      exact absurd H (by simp)
     subst c161
     rw [if_pos rfl] at H
     by_cases c162 : t559 = true
     rotate_left
     ·replace c162 := Bool.eq_false_iff.mpr c162
      subst c162
      rw [if_neg (show ¬ (false = true) by decide)] at H
      exact absurd H (by simp)
     subst c162
     rw [if_pos rfl] at H
     by_cases c163 : (t546.length : Int) = 0
     ·as_aux_lemma =>
      rw [if_pos c163] at H
      have c163b0 : ((t546.length : Int) == 0) = true := beq_iff_eq.mpr c163
      have c163b1 : ((t546.length : Int) != 0) = false := bne_eq_false_iff_eq.mpr c163
      clear c163
      by_cases c164 : t554 = true
      ·subst c164
       rw [if_pos rfl] at H
       exact absurd H (by simp)
      replace c164 := Bool.eq_false_iff.mpr c164
      subst c164
      rw [if_neg (show ¬ (false = true) by decide)] at H
      have H' := Aside0.mk H
      clear H
      go_wp2_with (first | ((with_reducible refine gate_callee (f := 14) rfl ?_); refine gl_ (some 230) rfl rfl Try.func14 (by kernel_rfl) rfl #[.slice A1 l1.length c1] rfl ?_; (with_reducible refine (spec_DrawLastMoves.calls kj55 _ _ l1 t541 t542 _ ?side1 ?side2 A148.out).mono ?_); (case side1 => exact Cl_ (Kd.C_below HR1.out HB.out)); (case side2 => exact HC1.out); rintro e w165 ⟨v543, rfl, ho0, hb⟩; refine ⟨_, rfl, ?_⟩; have HO544 := Aside0.mk (Kd.R_lower ho0 (below_size (Bl_ HB))); replace HB := Aside0.mk (below_step (Bl_ HB) hb); (try clear hb); (try clear hb2); (try clear hk); (try clear hi); (try clear ho0)) | ((with_reducible refine gate_dst (N := 28) rfl ?_); (try (refine gate_guard (by rfl) ?_; dsimp only)); refine box_event ?hg (N := 28) ?hd (cs := #[.int .i64 0, .slice none 0 0]) (t := 35) ?hr ?_; (case hd => rfl); (case hg => rfl); (case hr => first | (go_simp; done) | (go_simp; rfl)); intro gb545 hg w166 hbox hb; replace HO544 := Aside0.mk (Kd.R_below (Rl_ HO544.out) hb); have BK545 := Aside0.mk (hbox); have GW545 := Aside0.mk ((by rw [hg]; exact (below_size (Bl_ HB)) : w.heap.size ≤ gb545)); have GE545 := Aside0.mk ((by rw [hg]; exact (below_size (Bl_ HB)) : w.heap.size ≤ gb545)); replace HB := Aside0.mk (below_step (Bl_ HB) hb); clear hb hbox hg; have hcz167_0 : w166.cell? ⟨gb545, 0, none⟩ = some (.int .i64 0) := (blk_cell BK545.out 0).trans rfl; have hcz167_1 : w166.cell? ⟨gb545, 1, none⟩ = some (.slice none 0 0) := (blk_cell BK545.out 1).trans rfl; have hfz167_0 := blk_frozen BK545.out 0; have hfz167_1 := blk_frozen BK545.out 1; obtain ⟨Ao168, co168, eo168⟩ := Kd.R_slice HO544.out; subst eo168) | ((with_reducible refine gate_callee (f := 15) rfl ?_); refine gl_ (some 233) rfl rfl Try.func15 (by kernel_rfl) rfl #[.agg #[.int .i64 t541, .slice Ao168 t542.length co168]] rfl ?_; (with_reducible refine (impl_LastMoves.calls kj55 t541 _ _ t542 t546 true _ ?side1 ?side2 A149.out).mono ?_); (case side1 => refine (Kd.R_reads' (e := 3) (base := w.heap.size) (ok := fun k_ => True) (n := t542.length) (c := co168) ?_).2.2; exact (Rl_ (Rf2_ HO544.out BK545.out (by decide) (.int .i64 t541) (.slice Ao168 t542.length co168)))); (case side2 => exact (Kd.R_reads' HO544.out).2.1); rintro e w169 ⟨v547, rfl, ho0, hb⟩; refine ⟨_, rfl, ?_⟩; have HO548 := Aside0.mk (Kd.R_lower (Kd.R_new' ho0 (Kd.R_lt (Rl_ (Rf2_ HO544.out BK545.out (by decide) (.int .i64 t541) (.slice Ao168 t542.length co168))))) (below_size (Bl_ HB))); replace HO544 := Aside0.mk (Kd.R_elder' (Rl_ (Rf2_ HO544.out BK545.out (by decide) (.int .i64 t541) (.slice Ao168 t542.length co168))) (Kd.R_base ho0) hb); replace BK545 := Aside0.mk (blk_below (g := gb545) (o := .cells #[.int .i64 t541, .slice Ao168 t542.length co168] 35 (0, 0)) (by (with_reducible repeat (first | refine blk_drewN ?_ _ | refine blk_drew ?_ | refine blk_alloc ?_ _)); refine blk_put (cs := #[.int .i64 t541, .slice none 0 0]) ?_ 1 _ rfl; (with_reducible repeat (first | refine blk_drewN ?_ _ | refine blk_drew ?_ | refine blk_alloc ?_ _)); refine blk_put (cs := #[.int .i64 0, .slice none 0 0]) ?_ 0 _ rfl; (with_reducible repeat (first | refine blk_drewN ?_ _ | refine blk_drew ?_ | refine blk_alloc ?_ _)); exact BK545.out) hb); replace HB := Aside0.mk (below_step (Bl_ HB) hb); (try clear hb); (try clear hb2); (try clear hk); (try clear hi); (try clear ho0); have hcz170_0 : w169.cell? ⟨gb545, 0, none⟩ = some (.int .i64 t541) := (blk_cell BK545.out 0).trans rfl; have hcz170_1 : w169.cell? ⟨gb545, 1, none⟩ = some (.slice Ao168 t542.length co168) := (blk_cell BK545.out 1).trans rfl; have hfz170_0 := blk_frozen BK545.out 0; have hfz170_1 := blk_frozen BK545.out 1) | ((with_reducible refine gate_callee (f := 16) rfl ?_); refine gl_ (some 238) rfl rfl Try.func16 (by kernel_rfl) rfl #[.agg #[.int .i64 t541, .slice Ao168 t542.length co168]] rfl ?_; (with_reducible refine (spec_LastMoves.calls kj55 t541 _ _ t542 t550 t553 _ ?side1 ?side2 A150.out).mono ?_); (case side1 => exact Cl_ (Kd.R_reads' HO544.out).2.2); (case side2 => exact (Kd.R_reads' HO544.out).2.1); rintro e w171 ⟨v551, rfl, ho0, hb⟩; refine ⟨_, rfl, ?_⟩; have HO552 := Aside0.mk (Kd.R_lower (Kd.R_new' (Kd.R_new' ho0 (Kd.R_lt (Rl_ HO544.out))) (Kd.R_lt (Rl_ HO548.out))) (below_size (Bl_ HB))); replace HO544 := Aside0.mk (Kd.R_elder' (Rl_ HO544.out) (Kd.R_base ho0) hb); replace HO548 := Aside0.mk (Kd.R_elder' (Rl_ HO548.out) (Kd.R_base ho0) hb); replace BK545 := blkB_ BK545 hb; replace HB := Aside0.mk (below_step (Bl_ HB) hb); (try clear hb); (try clear hb2); (try clear hk); (try clear hi); (try clear ho0); have hcz172_0 : w171.cell? ⟨gb545, 0, none⟩ = some (.int .i64 t541) := (blk_cell BK545.out 0).trans rfl; have hcz172_1 : w171.cell? ⟨gb545, 1, none⟩ = some (.slice Ao168 t542.length co168) := (blk_cell BK545.out 1).trans rfl; have hfz172_0 := blk_frozen BK545.out 0; have hfz172_1 := blk_frozen BK545.out 1) | ((with_reducible refine gate_callee (f := 17) rfl ?_); refine gl_ (some 243) rfl rfl Try.func17 (by kernel_rfl) rfl #[.agg #[.int .i64 t541, .slice Ao168 t542.length co168]] rfl ?_; (with_reducible refine (impl_LastWins.calls kj55 t541 _ _ t542 false t555 _ ?side1 ?side2 A151.out).mono ?_); (case side1 => exact Cl_ (Kd.R_reads' HO544.out).2.2); (case side2 => exact (Kd.R_reads' HO544.out).2.1); rintro e w173 ⟨rfl, hb⟩; refine ⟨_, rfl, ?_⟩; replace HO544 := Aside0.mk (Kd.R_below (Rl_ HO544.out) hb); replace HO548 := Aside0.mk (Kd.R_below (Rl_ HO548.out) hb); replace HO552 := Aside0.mk (Kd.R_below (Rl_ HO552.out) hb); replace BK545 := blkB_ BK545 hb; replace HB := Aside0.mk (below_step (Bl_ HB) hb); (try clear hb); (try clear hb2); (try clear hk); (try clear hi); have hcz174_0 : w173.cell? ⟨gb545, 0, none⟩ = some (.int .i64 t541) := (blk_cell BK545.out 0).trans rfl; have hcz174_1 : w173.cell? ⟨gb545, 1, none⟩ = some (.slice Ao168 t542.length co168) := (blk_cell BK545.out 1).trans rfl; have hfz174_0 := blk_frozen BK545.out 0; have hfz174_1 := blk_frozen BK545.out 1) | ((with_reducible refine gate_callee (f := 18) rfl ?_); refine gl_ (some 248) rfl rfl Try.func18 (by kernel_rfl) rfl #[.agg #[.int .i64 t541, .slice Ao168 t542.length co168]] rfl ?_; (with_reducible refine (spec_LastWins.calls kj55 t541 _ _ t542 t556 t557 _ ?side1 ?side2 A152.out).mono ?_); (case side1 => exact Cl_ (Kd.R_reads' HO544.out).2.2); (case side2 => exact (Kd.R_reads' HO544.out).2.1); rintro e w175 ⟨rfl, hb⟩; refine ⟨_, rfl, ?_⟩; replace HO544 := Aside0.mk (Kd.R_below (Rl_ HO544.out) hb); replace HO548 := Aside0.mk (Kd.R_below (Rl_ HO548.out) hb); replace HO552 := Aside0.mk (Kd.R_below (Rl_ HO552.out) hb); replace BK545 := blkB_ BK545 hb; replace HB := Aside0.mk (below_step (Bl_ HB) hb); (try clear hb); (try clear hb2); (try clear hk); (try clear hi); obtain ⟨Ao176, co176, eo176⟩ := Kd.R_slice HO548.out; subst eo176; obtain ⟨Ao177, co177, eo177⟩ := Kd.R_slice HO552.out; subst eo177) | (go_at_call 12; (with_reducible refine (laws_nSame.calls kj55 _ _ t546 _ _ t550 true _ ?side1 ?side2 ?side3 ?side4 A154.out).mono ?_); (case side1 => exact Cl_ (Kd.R_reads' HO548.out).2.2); (case side2 => exact (Kd.R_reads' HO548.out).2.1); (case side3 => exact Cl_ (Kd.R_reads' HO552.out).2.2); (case side4 => exact (Kd.R_reads' HO552.out).2.1); rintro e w' ⟨rfl, ⟨nd, rfl⟩⟩; have hcz178_0 : w175.cell? ⟨gb545, 0, none⟩ = some (.int .i64 t541) := (blk_cell BK545.out 0).trans rfl; have hcz178_1 : w175.cell? ⟨gb545, 1, none⟩ = some (.slice Ao168 t542.length co168) := (blk_cell BK545.out 1).trans rfl; have hfz178_0 := blk_frozen BK545.out 0; have hfz178_1 := blk_frozen BK545.out 1) | ((with_reducible refine gate_callee (f := 19) rfl ?_); refine gl_ (some 278) rfl rfl Try.func19 (by kernel_rfl) rfl #[.agg #[.int .i64 t541, .slice Ao168 t542.length co168]] rfl ?_; (with_reducible refine (impl_IsLeast.calls kj55 t541 _ _ t542 true true _ ?side1 ?side2 A160.out).mono ?_); (case side1 => exact Cl_ (Kd.R_reads' HO544.out).2.2); (case side2 => exact (Kd.R_reads' HO544.out).2.1); rintro e w179 ⟨rfl, hb⟩; refine ⟨_, rfl, ?_⟩; replace HO544 := Aside0.mk (Kd.R_below (Rl_ HO544.out) hb); replace HO548 := Aside0.mk (Kd.R_below (Rl_ HO548.out) hb); replace HO552 := Aside0.mk (Kd.R_below (Rl_ HO552.out) hb); replace BK545 := blkB_ BK545 hb; replace HB := Aside0.mk (below_step (Bl_ HB) hb); (try clear hb); (try clear hb2); (try clear hk); (try clear hi)))
      go_loopg [39] kj55 (fun kq v39 w' => ∃ (x39_3 : Int), v39 = .int .i64 x39_3 ∧ Aside0 (laws_FnPlacesAndLasts.l2 kq t546 false x39_3 t541 t542 = some r) ∧ Aside0 (kq ≤ kj55) ∧ Aside0 (Kd.R (Kd.int .i64) 3 w' w.heap.size (fun k_ => some k_ ≠ ((.slice Ao168 t542.length co168) : Value).ownBlock) (.slice Ao176 t546.length co176) t546) ∧ Aside0 (Kd.R (Kd.int .i64) 3 w' w.heap.size (fun k_ => some k_ ≠ ((.slice Ao176 t546.length co176) : Value).ownBlock) (.slice Ao168 t542.length co168) t542) ∧ Aside0 (w'.heap[gb545]? = some (.cells #[.int .i64 t541, (.slice Ao168 t542.length co168)] 35 (0, 0))) ∧ Aside0 (Below w.heap.size w w'))
      case atStart => exact ⟨(0), (by first | rfl | (simp; done) | (simp [*]; done)), H', ⟨Nat.le_refl _⟩, ⟨Rl_ (Kd.R_mono HO548.out (fun _ hk => hk.1.2))⟩, ⟨Rl_ (Kd.R_mono HO544.out (fun _ hk => hk.1.2))⟩, ⟨bl_ BK545⟩, ⟨Bl_ HB⟩⟩
      case round =>
       as_aux_lemma =>
       clear H'
       try clear c1
       try clear c2
       try clear p2
       try clear c3
       try clear c4
       try clear c5
       try clear p5
       try clear q5
       try clear hx5
       try clear c6
       try clear p6
       try clear c7
       try clear c8
       try clear c9
       try clear c10
       try clear c11
       try clear c12
       try clear c13
       try clear c14
       try clear c15
       try clear c16
       try clear c17
       try clear c18
       try clear c19
       try clear c19b0
       try clear c19b1
       try clear c19b2
       try clear c20
       try clear c20b0
       try clear c20b1
       try clear c20b2
       try clear c21
       try clear c21b0
       try clear c21b1
       try clear c21b2
       try clear c23
       try clear c24
       try clear c24b0
       try clear c24b1
       try clear c24b2
       try clear c28
       try clear c29
       try clear c29b0
       try clear c29b1
       try clear c29b2
       try clear c34
       try clear c35
       try clear p53
       try clear q53
       try clear hx53
       try clear c55
       try clear c57
       try clear c58
       try clear c58b0
       try clear c58b1
       try clear c59
       try clear c59b0
       try clear c59b1
       try clear c59b2
       try clear c60
       try clear c60b0
       try clear c60b1
       try clear c61
       try clear c61b0
       try clear c62
       try clear c62b0
       try clear c62b1
       try clear c62b2
       try clear c63
       try clear c63b0
       try clear p64
       try clear c65
       try clear c65b0
       try clear c66
       try clear c66b0
       try clear c67
       try clear c67b0
       try clear c69
       try clear c69b0
       try clear c69b1
       try clear c70
       try clear c70b0
       try clear c70b1
       try clear c71
       try clear c71b0
       try clear c72
       try clear c72b0
       try clear c72b1
       try clear c74
       try clear c75
       try clear c76
       try clear c76b0
       try clear c76b1
       try clear c78
       try clear c79
       try clear c81
       try clear c82
       try clear c84
       try clear c84b0
       try clear c86
       try clear c86b0
       try clear c87
       try clear c87b0
       try clear c88
       try clear c88b0
       try clear c90
       try clear c90b0
       try clear c90b1
       try clear c91
       try clear c91b0
       try clear c91b1
       try clear c92
       try clear c92b0
       try clear c93
       try clear c93b0
       try clear c93b1
       try clear c95
       try clear c96
       try clear c97
       try clear c97b0
       try clear c97b1
       try clear c99
       try clear c100
       try clear c102
       try clear c103
       try clear c105
       try clear c105b0
       try clear c106
       try clear c106b0
       try clear c106b1
       try clear c106b2
       try clear c107
       try clear c107b0
       try clear c109
       try clear c109b0
       try clear c110
       try clear c110b0
       try clear c111
       try clear c111b0
       try clear c113
       try clear c113b0
       try clear c113b1
       try clear c114
       try clear c114b0
       try clear c114b1
       try clear c115
       try clear c115b0
       try clear c116
       try clear c116b0
       try clear c116b1
       try clear c118
       try clear c119
       try clear c120
       try clear c120b0
       try clear c120b1
       try clear c122
       try clear c123
       try clear c125
       try clear c126
       try clear c128
       try clear c128b0
       try clear c130
       try clear c130b0
       try clear c131
       try clear c131b0
       try clear c132
       try clear c132b0
       try clear c134
       try clear c134b0
       try clear c134b1
       try clear c135
       try clear c135b0
       try clear c135b1
       try clear c136
       try clear c136b0
       try clear c137
       try clear c137b0
       try clear c137b1
       try clear c139
       try clear c140
       try clear c141
       try clear c141b0
       try clear c141b1
       try clear c143
       try clear c144
       try clear c146
       try clear c147
       try clear c153
       try clear c153b0
       try clear c153b1
       try clear c153b2
       try clear c155
       try clear c156
       try clear c156b0
       try clear c156b1
       try clear c156b2
       try clear c157
       try clear c157b0
       try clear c157b1
       try clear c157b2
       try clear c158
       try clear c158b0
       try clear c158b1
       try clear c158b2
       try clear c159
       try clear c161
       try clear c162
       try clear c163
       try clear c163b0
       try clear c163b1
       try clear c164
       try clear hcz167_0
       try clear hcz167_1
       try clear hcz170_0
       try clear hcz170_1
       try clear hcz172_0
       try clear hcz172_1
       try clear hcz174_0
       try clear hcz174_1
       try clear hcz178_0
       try clear hcz178_1
       try clear hfz167_0
       try clear hfz167_1
       try clear hfz170_0
       try clear hfz170_1
       try clear hfz172_0
       try clear hfz172_1
       try clear hfz174_0
       try clear hfz174_1
       try clear hfz178_0
       try clear hfz178_1
       try clear hx534_0
       try clear p2
       try clear p5
       try clear p53
       try clear p534
       try clear p6
       try clear p64
       try clear q5
       try clear q53
       try clear q534
       obtain ⟨x39_3, rfl, HA, HK3, HO_29, HO_546001, BK545, HB⟩ := hrel
       cases gk with
       | zero => exact absurd HA.out (by simp [laws_FnPlacesAndLasts.l2])
       | succ k3 =>
        have H := HA.out
        clear HA
        simp only [laws_FnPlacesAndLasts.l2] at H
        by_cases c180 : x39_3 < (wrap64 (t541 - 1))
        rotate_left
        ·rw [if_neg c180] at H
         have c180b0 : decide (x39_3 < (wrap64 (t541 - 1))) = false := decide_eq_false c180
         clear c180
         obtain rfl := Option.some.inj H
         have hcz207_0 : wr.cell? ⟨gb545, 0, none⟩ = some (.int .i64 t541) := (blk_cell BK545.out 0).trans rfl
         have hcz207_1 : wr.cell? ⟨gb545, 1, none⟩ = some (.slice Ao168 t542.length co168) := (blk_cell BK545.out 1).trans rfl
         have hfz207_0 := blk_frozen BK545.out 0
         have hfz207_1 := blk_frozen BK545.out 1
         go_wp2
         go_ret
         exact ⟨by first | rfl | (simp [errW_none, errW_some] <;> rfl) | (simp [*, errW_none, errW_some] <;> rfl), Bl_ HB⟩
        rw [if_pos c180] at H
        have c180b0 : decide (x39_3 < (wrap64 (t541 - 1))) = true := decide_eq_true c180
        clear c180
        replace H := Option.bind_eq_some_iff.mp H
        obtain ⟨⟨t561, t562, t565⟩, A1810, H⟩ := H
        (try dsimp only at H)
        have A181 := Aside0.mk A1810
        clear A1810
        replace H := Option.bind_eq_some_iff.mp H
        obtain ⟨⟨t567, t568⟩, A1820, H⟩ := H
        (try dsimp only at H)
        have A182 := Aside0.mk A1820
        clear A1820
        by_cases c183 : t565 = true
        rotate_left
        ·replace c183 := Bool.eq_false_iff.mpr c183
         subst c183
         rw [if_neg (show ¬ (false = true) by decide)] at H
         exact absurd H (by simp)
        subst c183
        rw [if_pos rfl] at H
        by_cases c184 : t568 = true
        rotate_left
        ·replace c184 := Bool.eq_false_iff.mpr c184
         subst c184
         rw [if_neg (show ¬ (false = true) by decide)] at H
         exact absurd H (by simp)
        subst c184
        rw [if_pos rfl] at H
        replace H := Option.bind_eq_some_iff.mp H
        obtain ⟨t569, A1850, H⟩ := H
        (try dsimp only at H)
        have A185 := Aside0.mk A1850
        clear A1850
        by_cases c186 : (t567 != t569) = true
        ·rw [if_pos c186] at H
         exact absurd H (by simp)
        rw [if_neg c186] at H
        have c186b0 : (t567 != t569) = false := by simpa using c186
        (try (have c186b1 : decide (t567 = t569) = true := by simpa using c186))
        (try (have c186b2 : (t567 == t569) = true := by simpa using c186))
        clear c186
        by_cases c187 : t567 = true
        rotate_left
        ·replace c187 := Bool.eq_false_iff.mpr c187
         subst c187
         rw [if_neg (show ¬ (false = true) by decide)] at H
         have H' := Aside0.mk H
         clear H
         have hcz200_0 : wr.cell? ⟨gb545, 0, none⟩ = some (.int .i64 t541) := (blk_cell BK545.out 0).trans rfl
         have hcz200_1 : wr.cell? ⟨gb545, 1, none⟩ = some (.slice Ao168 t542.length co168) := (blk_cell BK545.out 1).trans rfl
         have hfz200_0 := blk_frozen BK545.out 0
         have hfz200_1 := blk_frozen BK545.out 1
         go_wp2_with (first | ((with_reducible refine gate_callee (f := 20) rfl ?_); refine gl_ (some 308) rfl rfl Try.func20 (by kernel_rfl) rfl #[.agg #[.int .i64 t541, .slice Ao168 t542.length co168], .int .i64 (t542.length : Int), .int .i64 x39_3] rfl ?_; (with_reducible refine (impl_AddRung.calls k3 t541 _ _ t542 (t542.length : Int) x39_3 t561 t562 true _ ?side1 ?side2 A181.out).mono ?_); (case side1 => exact Cl_ (Kd.R_reads' HO_546001.out).2.2); (case side2 => exact (Kd.R_reads' HO_546001.out).2.1); rintro e w201 ⟨v563, rfl, ho0, hb⟩; refine ⟨_, rfl, ?_⟩; have HO564 := Aside0.mk (Kd.R_lower (Kd.R_new' (Kd.R_new' ho0 (Kd.R_lt (Rl_ HO_29.out))) (Kd.R_lt (Rl_ HO_546001.out))) (below_size (Bl_ HB))); replace HO_29 := Aside0.mk (Kd.R_elder' (Rl_ HO_29.out) (Kd.R_base ho0) hb); replace HO_546001 := Aside0.mk (Kd.R_elder' (Rl_ HO_546001.out) (Kd.R_base ho0) hb); replace BK545 := blkB_ BK545 hb; replace HB := Aside0.mk (below_step (Bl_ HB) hb); (try clear hb); (try clear hb2); (try clear hk); (try clear hi); (try clear ho0)) | ((with_reducible refine gate_dst (N := 40) rfl ?_); (try (refine gate_guard (by rfl) ?_; dsimp only)); refine box_event ?hg (N := 40) ?hd (cs := #[.int .i64 0, .slice none 0 0]) (t := 35) ?hr ?_; (case hd => rfl); (case hg => rfl); (case hr => first | (go_simp; done) | (go_simp; rfl)); intro gb566 hg w202 hbox hb; replace HO_29 := Aside0.mk (Kd.R_below (Rl_ HO_29.out) hb); replace HO_546001 := Aside0.mk (Kd.R_below (Rl_ HO_546001.out) hb); replace HO564 := Aside0.mk (Kd.R_below (Rl_ HO564.out) hb); have BK566 := Aside0.mk (hbox); have GW566 := Aside0.mk ((by rw [hg]; exact (below_size (Bl_ HB)) : w.heap.size ≤ gb566)); have GE566 := Aside0.mk ((by rw [hg]; exact (below_size (Bl_ HB)) : w.heap.size ≤ gb566)); replace HB := Aside0.mk (below_step (Bl_ HB) hb); have NB545_566 := nbl_ BK545 hg; have NB566_545 := nbg_ BK545 hg; replace BK545 := blkB_ BK545 hb; clear hb hbox hg; have hnb203 := NB566_545.out; have hnc203 := NB545_566.out; have hcz204_0 : w202.cell? ⟨gb566, 0, none⟩ = some (.int .i64 0) := (blk_cell BK566.out 0).trans rfl; have hcz204_1 : w202.cell? ⟨gb566, 1, none⟩ = some (.slice none 0 0) := (blk_cell BK566.out 1).trans rfl; have hfz204_0 := blk_frozen BK566.out 0; have hfz204_1 := blk_frozen BK566.out 1; obtain ⟨Ao205, co205, eo205⟩ := Kd.R_slice HO564.out; subst eo205) | ((with_reducible refine gate_callee (f := 19) rfl ?_); refine gl_ (some 313) rfl rfl Try.func19 (by kernel_rfl) rfl #[.agg #[.int .i64 t561, .slice Ao205 t562.length co205]] rfl ?_; (with_reducible refine (impl_IsLeast.calls k3 t561 _ _ t562 false true _ ?side1 ?side2 A182.out).mono ?_); (case side1 => refine (Kd.R_reads' (e := 3) (base := w.heap.size) (ok := fun k_ => ((True ∧ some k_ ≠ (.slice Ao176 t546.length co176 : Value).ownBlock) ∧ some k_ ≠ (.slice Ao168 t542.length co168 : Value).ownBlock)) (n := t562.length) (c := co205) ?_).2.2; exact (Rl_ (Rf2_ HO564.out BK566.out (by decide) (.int .i64 t561) (.slice Ao205 t562.length co205)))); (case side2 => exact (Kd.R_reads' HO564.out).2.1); rintro e w206 ⟨rfl, hb⟩; refine ⟨_, rfl, ?_⟩; replace HO_29 := Aside0.mk (Kd.R_below (Rl_ (Rf2_ HO_29.out BK566.out (by decide) (.int .i64 t561) (.slice Ao205 t562.length co205))) hb); replace HO_546001 := Aside0.mk (Kd.R_below (Rl_ (Rf2_ HO_546001.out BK566.out (by decide) (.int .i64 t561) (.slice Ao205 t562.length co205))) hb); replace HO564 := Aside0.mk (Kd.R_below (Rl_ (Rf2_ HO564.out BK566.out (by decide) (.int .i64 t561) (.slice Ao205 t562.length co205))) hb); replace BK545 := blkF_ BK545 NB545_566 hb; replace BK566 := Aside0.mk (blk_below (g := gb566) (o := .cells #[.int .i64 t561, .slice Ao205 t562.length co205] 35 (0, 0)) (by (with_reducible repeat (first | refine blk_drewN ?_ _ | refine blk_drew ?_ | refine blk_alloc ?_ _)); refine blk_put (cs := #[.int .i64 t561, .slice none 0 0]) ?_ 1 _ rfl; (with_reducible repeat (first | refine blk_drewN ?_ _ | refine blk_drew ?_ | refine blk_alloc ?_ _)); refine blk_put (cs := #[.int .i64 0, .slice none 0 0]) ?_ 0 _ rfl; (with_reducible repeat (first | refine blk_drewN ?_ _ | refine blk_drew ?_ | refine blk_alloc ?_ _)); exact BK566.out) hb); replace HB := Aside0.mk (below_step (Bl_ HB) hb); (try clear hb); (try clear hb2); (try clear hk); (try clear hi)) | (go_at_call 13; (with_reducible refine (laws_nHas.calls k3 _ _ t546 x39_3 t569 _ ?side1 ?side2 A185.out).mono ?_); (case side1 => exact Cl_ (Kd.R_reads' HO_29.out).2.2); (case side2 => exact (Kd.R_reads' HO_29.out).2.1); rintro e w' ⟨rfl, ⟨nd, rfl⟩⟩))
         go_roundg k3
         case measure => have := HJ11.out; have := HJ55.out; have := HK3.out; omega
         case rel => exact ⟨(wrap64 (x39_3 + 1)), (by first | rfl | (simp; done) | (simp [*]; done)), H', ⟨by have := HJ11.out; have := HJ55.out; have := HK3.out; omega⟩, ⟨Rl_ (Kd.R_mono HO_29.out (fun _ hk => hk.1))⟩, ⟨Rl_ (Kd.R_mono HO_546001.out (fun _ hk => hk.1))⟩, ⟨bl_ BK545⟩, ⟨Bl_ HB⟩⟩
        subst c187
        rw [if_pos rfl] at H
        replace H := Option.bind_eq_some_iff.mp H
        obtain ⟨⟨t570, t571⟩, A1880, H⟩ := H
        (try dsimp only at H)
        have A188 := Aside0.mk A1880
        clear A1880
        by_cases c189 : t571 = true
        rotate_left
        ·replace c189 := Bool.eq_false_iff.mpr c189
         subst c189
         rw [if_neg (show ¬ (false = true) by decide)] at H
         exact absurd H (by simp)
        subst c189
        rw [if_pos rfl] at H
        by_cases c190 : (t570 == false) = true
        ·rw [if_pos c190] at H
         exact absurd H (by simp)
        rw [if_neg c190] at H
        have c190b0 : (t570 == false) = false := by simpa using c190
        (try (have c190b1 : decide (t570 = false) = false := by simpa using c190))
        (try (have c190b2 : (t570 == false) = false := by simpa using c190))
        (try (have c190b3 : ¬ (t570 = false) := by simpa using c190))
        clear c190
        have H' := Aside0.mk H
        clear H
        have hcz191_0 : wr.cell? ⟨gb545, 0, none⟩ = some (.int .i64 t541) := (blk_cell BK545.out 0).trans rfl
        have hcz191_1 : wr.cell? ⟨gb545, 1, none⟩ = some (.slice Ao168 t542.length co168) := (blk_cell BK545.out 1).trans rfl
        have hfz191_0 := blk_frozen BK545.out 0
        have hfz191_1 := blk_frozen BK545.out 1
        go_wp2_with (first | ((with_reducible refine gate_callee (f := 20) rfl ?_); refine gl_ (some 308) rfl rfl Try.func20 (by kernel_rfl) rfl #[.agg #[.int .i64 t541, .slice Ao168 t542.length co168], .int .i64 (t542.length : Int), .int .i64 x39_3] rfl ?_; (with_reducible refine (impl_AddRung.calls k3 t541 _ _ t542 (t542.length : Int) x39_3 t561 t562 true _ ?side1 ?side2 A181.out).mono ?_); (case side1 => exact Cl_ (Kd.R_reads' HO_546001.out).2.2); (case side2 => exact (Kd.R_reads' HO_546001.out).2.1); rintro e w192 ⟨v563, rfl, ho0, hb⟩; refine ⟨_, rfl, ?_⟩; have HO564 := Aside0.mk (Kd.R_lower (Kd.R_new' (Kd.R_new' ho0 (Kd.R_lt (Rl_ HO_29.out))) (Kd.R_lt (Rl_ HO_546001.out))) (below_size (Bl_ HB))); replace HO_29 := Aside0.mk (Kd.R_elder' (Rl_ HO_29.out) (Kd.R_base ho0) hb); replace HO_546001 := Aside0.mk (Kd.R_elder' (Rl_ HO_546001.out) (Kd.R_base ho0) hb); replace BK545 := blkB_ BK545 hb; replace HB := Aside0.mk (below_step (Bl_ HB) hb); (try clear hb); (try clear hb2); (try clear hk); (try clear hi); (try clear ho0)) | ((with_reducible refine gate_dst (N := 40) rfl ?_); (try (refine gate_guard (by rfl) ?_; dsimp only)); refine box_event ?hg (N := 40) ?hd (cs := #[.int .i64 0, .slice none 0 0]) (t := 35) ?hr ?_; (case hd => rfl); (case hg => rfl); (case hr => first | (go_simp; done) | (go_simp; rfl)); intro gb566 hg w193 hbox hb; replace HO_29 := Aside0.mk (Kd.R_below (Rl_ HO_29.out) hb); replace HO_546001 := Aside0.mk (Kd.R_below (Rl_ HO_546001.out) hb); replace HO564 := Aside0.mk (Kd.R_below (Rl_ HO564.out) hb); have BK566 := Aside0.mk (hbox); have GW566 := Aside0.mk ((by rw [hg]; exact (below_size (Bl_ HB)) : w.heap.size ≤ gb566)); have GE566 := Aside0.mk ((by rw [hg]; exact (below_size (Bl_ HB)) : w.heap.size ≤ gb566)); replace HB := Aside0.mk (below_step (Bl_ HB) hb); have NB545_566 := nbl_ BK545 hg; have NB566_545 := nbg_ BK545 hg; replace BK545 := blkB_ BK545 hb; clear hb hbox hg; have hnb194 := NB566_545.out; have hnc194 := NB545_566.out; have hcz195_0 : w193.cell? ⟨gb566, 0, none⟩ = some (.int .i64 0) := (blk_cell BK566.out 0).trans rfl; have hcz195_1 : w193.cell? ⟨gb566, 1, none⟩ = some (.slice none 0 0) := (blk_cell BK566.out 1).trans rfl; have hfz195_0 := blk_frozen BK566.out 0; have hfz195_1 := blk_frozen BK566.out 1; obtain ⟨Ao196, co196, eo196⟩ := Kd.R_slice HO564.out; subst eo196) | ((with_reducible refine gate_callee (f := 19) rfl ?_); refine gl_ (some 313) rfl rfl Try.func19 (by kernel_rfl) rfl #[.agg #[.int .i64 t561, .slice Ao196 t562.length co196]] rfl ?_; (with_reducible refine (impl_IsLeast.calls k3 t561 _ _ t562 true true _ ?side1 ?side2 A182.out).mono ?_); (case side1 => refine (Kd.R_reads' (e := 3) (base := w.heap.size) (ok := fun k_ => ((True ∧ some k_ ≠ (.slice Ao176 t546.length co176 : Value).ownBlock) ∧ some k_ ≠ (.slice Ao168 t542.length co168 : Value).ownBlock)) (n := t562.length) (c := co196) ?_).2.2; exact (Rl_ (Rf2_ HO564.out BK566.out (by decide) (.int .i64 t561) (.slice Ao196 t562.length co196)))); (case side2 => exact (Kd.R_reads' HO564.out).2.1); rintro e w197 ⟨rfl, hb⟩; refine ⟨_, rfl, ?_⟩; replace HO_29 := Aside0.mk (Kd.R_below (Rl_ (Rf2_ HO_29.out BK566.out (by decide) (.int .i64 t561) (.slice Ao196 t562.length co196))) hb); replace HO_546001 := Aside0.mk (Kd.R_below (Rl_ (Rf2_ HO_546001.out BK566.out (by decide) (.int .i64 t561) (.slice Ao196 t562.length co196))) hb); replace HO564 := Aside0.mk (Kd.R_below (Rl_ (Rf2_ HO564.out BK566.out (by decide) (.int .i64 t561) (.slice Ao196 t562.length co196))) hb); replace BK545 := blkF_ BK545 NB545_566 hb; replace BK566 := Aside0.mk (blk_below (g := gb566) (o := .cells #[.int .i64 t561, .slice Ao196 t562.length co196] 35 (0, 0)) (by (with_reducible repeat (first | refine blk_drewN ?_ _ | refine blk_drew ?_ | refine blk_alloc ?_ _)); refine blk_put (cs := #[.int .i64 t561, .slice none 0 0]) ?_ 1 _ rfl; (with_reducible repeat (first | refine blk_drewN ?_ _ | refine blk_drew ?_ | refine blk_alloc ?_ _)); refine blk_put (cs := #[.int .i64 0, .slice none 0 0]) ?_ 0 _ rfl; (with_reducible repeat (first | refine blk_drewN ?_ _ | refine blk_drew ?_ | refine blk_alloc ?_ _)); exact BK566.out) hb); replace HB := Aside0.mk (below_step (Bl_ HB) hb); (try clear hb); (try clear hb2); (try clear hk); (try clear hi)) | (go_at_call 13; (with_reducible refine (laws_nHas.calls k3 _ _ t546 x39_3 t569 _ ?side1 ?side2 A185.out).mono ?_); (case side1 => exact Cl_ (Kd.R_reads' HO_29.out).2.2); (case side2 => exact (Kd.R_reads' HO_29.out).2.1); rintro e w' ⟨rfl, ⟨nd, rfl⟩⟩; have hcz198_0 : w197.cell? ⟨gb566, 0, none⟩ = some (.int .i64 t561) := (blk_cell BK566.out 0).trans rfl; have hcz198_1 : w197.cell? ⟨gb566, 1, none⟩ = some (.slice Ao196 t562.length co196) := (blk_cell BK566.out 1).trans rfl; have hfz198_0 := blk_frozen BK566.out 0; have hfz198_1 := blk_frozen BK566.out 1) | ((with_reducible refine gate_callee (f := 17) rfl ?_); refine gl_ (some 332) rfl rfl Try.func17 (by kernel_rfl) rfl #[.agg #[.int .i64 t561, .slice Ao196 t562.length co196]] rfl ?_; (with_reducible refine (impl_LastWins.calls k3 t561 _ _ t562 t570 true _ ?side1 ?side2 A188.out).mono ?_); (case side1 => exact Cl_ (Kd.R_reads' HO564.out).2.2); (case side2 => exact (Kd.R_reads' HO564.out).2.1); rintro e w199 ⟨rfl, hb⟩; refine ⟨_, rfl, ?_⟩; replace HO_29 := Aside0.mk (Kd.R_below (Rl_ HO_29.out) hb); replace HO_546001 := Aside0.mk (Kd.R_below (Rl_ HO_546001.out) hb); replace HO564 := Aside0.mk (Kd.R_below (Rl_ HO564.out) hb); replace BK545 := blkB_ BK545 hb; replace BK566 := blkB_ BK566 hb; replace HB := Aside0.mk (below_step (Bl_ HB) hb); (try clear hb); (try clear hb2); (try clear hk); (try clear hi)))
        go_roundg k3
        case measure => have := HJ11.out; have := HJ55.out; have := HK3.out; omega
        case rel => exact ⟨(wrap64 (x39_3 + 1)), (by first | rfl | (simp; done) | (simp [*]; done)), H', ⟨by have := HJ11.out; have := HJ55.out; have := HK3.out; omega⟩, ⟨Rl_ (Kd.R_mono HO_29.out (fun _ hk => hk.1))⟩, ⟨Rl_ (Kd.R_mono HO_546001.out (fun _ hk => hk.1))⟩, ⟨bl_ BK545⟩, ⟨Bl_ HB⟩⟩
     as_aux_lemma =>
     rw [if_neg c163] at H
     have c163b0 : ((t546.length : Int) == 0) = false := beq_eq_false_iff_ne.mpr c163
     have c163b1 : ((t546.length : Int) != 0) = true := bne_iff_ne.mpr c163
     have c163b2 : ¬ (t546 = []) := fun h_ => c163 (by rw [h_]; rfl)
     have H' := Aside0.mk H
     clear H
     go_wp2_with (first | ((with_reducible refine gate_callee (f := 14) rfl ?_); refine gl_ (some 230) rfl rfl Try.func14 (by kernel_rfl) rfl #[.slice A1 l1.length c1] rfl ?_; (with_reducible refine (spec_DrawLastMoves.calls kj55 _ _ l1 t541 t542 _ ?side1 ?side2 A148.out).mono ?_); (case side1 => exact Cl_ (Kd.C_below HR1.out HB.out)); (case side2 => exact HC1.out); rintro e w208 ⟨v543, rfl, ho0, hb⟩; refine ⟨_, rfl, ?_⟩; have HO544 := Aside0.mk (Kd.R_lower ho0 (below_size (Bl_ HB))); replace HB := Aside0.mk (below_step (Bl_ HB) hb); (try clear hb); (try clear hb2); (try clear hk); (try clear hi); (try clear ho0)) | ((with_reducible refine gate_dst (N := 28) rfl ?_); (try (refine gate_guard (by rfl) ?_; dsimp only)); refine box_event ?hg (N := 28) ?hd (cs := #[.int .i64 0, .slice none 0 0]) (t := 35) ?hr ?_; (case hd => rfl); (case hg => rfl); (case hr => first | (go_simp; done) | (go_simp; rfl)); intro gb545 hg w209 hbox hb; replace HO544 := Aside0.mk (Kd.R_below (Rl_ HO544.out) hb); have BK545 := Aside0.mk (hbox); have GW545 := Aside0.mk ((by rw [hg]; exact (below_size (Bl_ HB)) : w.heap.size ≤ gb545)); have GE545 := Aside0.mk ((by rw [hg]; exact (below_size (Bl_ HB)) : w.heap.size ≤ gb545)); replace HB := Aside0.mk (below_step (Bl_ HB) hb); clear hb hbox hg; have hcz210_0 : w209.cell? ⟨gb545, 0, none⟩ = some (.int .i64 0) := (blk_cell BK545.out 0).trans rfl; have hcz210_1 : w209.cell? ⟨gb545, 1, none⟩ = some (.slice none 0 0) := (blk_cell BK545.out 1).trans rfl; have hfz210_0 := blk_frozen BK545.out 0; have hfz210_1 := blk_frozen BK545.out 1; obtain ⟨Ao211, co211, eo211⟩ := Kd.R_slice HO544.out; subst eo211) | ((with_reducible refine gate_callee (f := 15) rfl ?_); refine gl_ (some 233) rfl rfl Try.func15 (by kernel_rfl) rfl #[.agg #[.int .i64 t541, .slice Ao211 t542.length co211]] rfl ?_; (with_reducible refine (impl_LastMoves.calls kj55 t541 _ _ t542 t546 true _ ?side1 ?side2 A149.out).mono ?_); (case side1 => refine (Kd.R_reads' (e := 3) (base := w.heap.size) (ok := fun k_ => True) (n := t542.length) (c := co211) ?_).2.2; exact (Rl_ (Rf2_ HO544.out BK545.out (by decide) (.int .i64 t541) (.slice Ao211 t542.length co211)))); (case side2 => exact (Kd.R_reads' HO544.out).2.1); rintro e w212 ⟨v547, rfl, ho0, hb⟩; refine ⟨_, rfl, ?_⟩; have HO548 := Aside0.mk (Kd.R_lower (Kd.R_new' ho0 (Kd.R_lt (Rl_ (Rf2_ HO544.out BK545.out (by decide) (.int .i64 t541) (.slice Ao211 t542.length co211))))) (below_size (Bl_ HB))); replace HO544 := Aside0.mk (Kd.R_elder' (Rl_ (Rf2_ HO544.out BK545.out (by decide) (.int .i64 t541) (.slice Ao211 t542.length co211))) (Kd.R_base ho0) hb); replace BK545 := Aside0.mk (blk_below (g := gb545) (o := .cells #[.int .i64 t541, .slice Ao211 t542.length co211] 35 (0, 0)) (by (with_reducible repeat (first | refine blk_drewN ?_ _ | refine blk_drew ?_ | refine blk_alloc ?_ _)); refine blk_put (cs := #[.int .i64 t541, .slice none 0 0]) ?_ 1 _ rfl; (with_reducible repeat (first | refine blk_drewN ?_ _ | refine blk_drew ?_ | refine blk_alloc ?_ _)); refine blk_put (cs := #[.int .i64 0, .slice none 0 0]) ?_ 0 _ rfl; (with_reducible repeat (first | refine blk_drewN ?_ _ | refine blk_drew ?_ | refine blk_alloc ?_ _)); exact BK545.out) hb); replace HB := Aside0.mk (below_step (Bl_ HB) hb); (try clear hb); (try clear hb2); (try clear hk); (try clear hi); (try clear ho0); have hcz213_0 : w212.cell? ⟨gb545, 0, none⟩ = some (.int .i64 t541) := (blk_cell BK545.out 0).trans rfl; have hcz213_1 : w212.cell? ⟨gb545, 1, none⟩ = some (.slice Ao211 t542.length co211) := (blk_cell BK545.out 1).trans rfl; have hfz213_0 := blk_frozen BK545.out 0; have hfz213_1 := blk_frozen BK545.out 1) | ((with_reducible refine gate_callee (f := 16) rfl ?_); refine gl_ (some 238) rfl rfl Try.func16 (by kernel_rfl) rfl #[.agg #[.int .i64 t541, .slice Ao211 t542.length co211]] rfl ?_; (with_reducible refine (spec_LastMoves.calls kj55 t541 _ _ t542 t550 t553 _ ?side1 ?side2 A150.out).mono ?_); (case side1 => exact Cl_ (Kd.R_reads' HO544.out).2.2); (case side2 => exact (Kd.R_reads' HO544.out).2.1); rintro e w214 ⟨v551, rfl, ho0, hb⟩; refine ⟨_, rfl, ?_⟩; have HO552 := Aside0.mk (Kd.R_lower (Kd.R_new' (Kd.R_new' ho0 (Kd.R_lt (Rl_ HO544.out))) (Kd.R_lt (Rl_ HO548.out))) (below_size (Bl_ HB))); replace HO544 := Aside0.mk (Kd.R_elder' (Rl_ HO544.out) (Kd.R_base ho0) hb); replace HO548 := Aside0.mk (Kd.R_elder' (Rl_ HO548.out) (Kd.R_base ho0) hb); replace BK545 := blkB_ BK545 hb; replace HB := Aside0.mk (below_step (Bl_ HB) hb); (try clear hb); (try clear hb2); (try clear hk); (try clear hi); (try clear ho0); have hcz215_0 : w214.cell? ⟨gb545, 0, none⟩ = some (.int .i64 t541) := (blk_cell BK545.out 0).trans rfl; have hcz215_1 : w214.cell? ⟨gb545, 1, none⟩ = some (.slice Ao211 t542.length co211) := (blk_cell BK545.out 1).trans rfl; have hfz215_0 := blk_frozen BK545.out 0; have hfz215_1 := blk_frozen BK545.out 1) | ((with_reducible refine gate_callee (f := 17) rfl ?_); refine gl_ (some 243) rfl rfl Try.func17 (by kernel_rfl) rfl #[.agg #[.int .i64 t541, .slice Ao211 t542.length co211]] rfl ?_; (with_reducible refine (impl_LastWins.calls kj55 t541 _ _ t542 t554 t555 _ ?side1 ?side2 A151.out).mono ?_); (case side1 => exact Cl_ (Kd.R_reads' HO544.out).2.2); (case side2 => exact (Kd.R_reads' HO544.out).2.1); rintro e w216 ⟨rfl, hb⟩; refine ⟨_, rfl, ?_⟩; replace HO544 := Aside0.mk (Kd.R_below (Rl_ HO544.out) hb); replace HO548 := Aside0.mk (Kd.R_below (Rl_ HO548.out) hb); replace HO552 := Aside0.mk (Kd.R_below (Rl_ HO552.out) hb); replace BK545 := blkB_ BK545 hb; replace HB := Aside0.mk (below_step (Bl_ HB) hb); (try clear hb); (try clear hb2); (try clear hk); (try clear hi); have hcz217_0 : w216.cell? ⟨gb545, 0, none⟩ = some (.int .i64 t541) := (blk_cell BK545.out 0).trans rfl; have hcz217_1 : w216.cell? ⟨gb545, 1, none⟩ = some (.slice Ao211 t542.length co211) := (blk_cell BK545.out 1).trans rfl; have hfz217_0 := blk_frozen BK545.out 0; have hfz217_1 := blk_frozen BK545.out 1) | ((with_reducible refine gate_callee (f := 18) rfl ?_); refine gl_ (some 248) rfl rfl Try.func18 (by kernel_rfl) rfl #[.agg #[.int .i64 t541, .slice Ao211 t542.length co211]] rfl ?_; (with_reducible refine (spec_LastWins.calls kj55 t541 _ _ t542 t556 t557 _ ?side1 ?side2 A152.out).mono ?_); (case side1 => exact Cl_ (Kd.R_reads' HO544.out).2.2); (case side2 => exact (Kd.R_reads' HO544.out).2.1); rintro e w218 ⟨rfl, hb⟩; refine ⟨_, rfl, ?_⟩; replace HO544 := Aside0.mk (Kd.R_below (Rl_ HO544.out) hb); replace HO548 := Aside0.mk (Kd.R_below (Rl_ HO548.out) hb); replace HO552 := Aside0.mk (Kd.R_below (Rl_ HO552.out) hb); replace BK545 := blkB_ BK545 hb; replace HB := Aside0.mk (below_step (Bl_ HB) hb); (try clear hb); (try clear hb2); (try clear hk); (try clear hi); obtain ⟨Ao219, co219, eo219⟩ := Kd.R_slice HO548.out; subst eo219; obtain ⟨Ao220, co220, eo220⟩ := Kd.R_slice HO552.out; subst eo220) | (go_at_call 12; (with_reducible refine (laws_nSame.calls kj55 _ _ t546 _ _ t550 true _ ?side1 ?side2 ?side3 ?side4 A154.out).mono ?_); (case side1 => exact Cl_ (Kd.R_reads' HO548.out).2.2); (case side2 => exact (Kd.R_reads' HO548.out).2.1); (case side3 => exact Cl_ (Kd.R_reads' HO552.out).2.2); (case side4 => exact (Kd.R_reads' HO552.out).2.1); rintro e w' ⟨rfl, ⟨nd, rfl⟩⟩; have hcz221_0 : w218.cell? ⟨gb545, 0, none⟩ = some (.int .i64 t541) := (blk_cell BK545.out 0).trans rfl; have hcz221_1 : w218.cell? ⟨gb545, 1, none⟩ = some (.slice Ao211 t542.length co211) := (blk_cell BK545.out 1).trans rfl; have hfz221_0 := blk_frozen BK545.out 0; have hfz221_1 := blk_frozen BK545.out 1) | ((with_reducible refine gate_callee (f := 19) rfl ?_); refine gl_ (some 278) rfl rfl Try.func19 (by kernel_rfl) rfl #[.agg #[.int .i64 t541, .slice Ao211 t542.length co211]] rfl ?_; (with_reducible refine (impl_IsLeast.calls kj55 t541 _ _ t542 true true _ ?side1 ?side2 A160.out).mono ?_); (case side1 => exact Cl_ (Kd.R_reads' HO544.out).2.2); (case side2 => exact (Kd.R_reads' HO544.out).2.1); rintro e w222 ⟨rfl, hb⟩; refine ⟨_, rfl, ?_⟩; replace HO544 := Aside0.mk (Kd.R_below (Rl_ HO544.out) hb); replace HO548 := Aside0.mk (Kd.R_below (Rl_ HO548.out) hb); replace HO552 := Aside0.mk (Kd.R_below (Rl_ HO552.out) hb); replace BK545 := blkB_ BK545 hb; replace HB := Aside0.mk (below_step (Bl_ HB) hb); (try clear hb); (try clear hb2); (try clear hk); (try clear hi)))
     go_loopg [39] kj55 (fun kq v39 w' => ∃ (x39_3 : Int), v39 = .int .i64 x39_3 ∧ Aside0 (laws_FnPlacesAndLasts.l2 kq t546 t554 x39_3 t541 t542 = some r) ∧ Aside0 (kq ≤ kj55) ∧ Aside0 (Kd.R (Kd.int .i64) 3 w' w.heap.size (fun k_ => some k_ ≠ ((.slice Ao211 t542.length co211) : Value).ownBlock) (.slice Ao219 t546.length co219) t546) ∧ Aside0 (Kd.R (Kd.int .i64) 3 w' w.heap.size (fun k_ => some k_ ≠ ((.slice Ao219 t546.length co219) : Value).ownBlock) (.slice Ao211 t542.length co211) t542) ∧ Aside0 (w'.heap[gb545]? = some (.cells #[.int .i64 t541, (.slice Ao211 t542.length co211)] 35 (0, 0))) ∧ Aside0 (Below w.heap.size w w'))
     case atStart => exact ⟨(0), (by first | rfl | (simp; done) | (simp [*]; done)), H', ⟨Nat.le_refl _⟩, ⟨Rl_ (Kd.R_mono HO548.out (fun _ hk => hk.1.2))⟩, ⟨Rl_ (Kd.R_mono HO544.out (fun _ hk => hk.1.2))⟩, ⟨bl_ BK545⟩, ⟨Bl_ HB⟩⟩
     case round =>
      as_aux_lemma =>
      clear H'
      try clear c1
      try clear c2
      try clear p2
      try clear c3
      try clear c4
      try clear c5
      try clear p5
      try clear q5
      try clear hx5
      try clear c6
      try clear p6
      try clear c7
      try clear c8
      try clear c9
      try clear c10
      try clear c11
      try clear c12
      try clear c13
      try clear c14
      try clear c15
      try clear c16
      try clear c17
      try clear c18
      try clear c19
      try clear c19b0
      try clear c19b1
      try clear c19b2
      try clear c20
      try clear c20b0
      try clear c20b1
      try clear c20b2
      try clear c21
      try clear c21b0
      try clear c21b1
      try clear c21b2
      try clear c23
      try clear c24
      try clear c24b0
      try clear c24b1
      try clear c24b2
      try clear c28
      try clear c29
      try clear c29b0
      try clear c29b1
      try clear c29b2
      try clear c34
      try clear c35
      try clear p53
      try clear q53
      try clear hx53
      try clear c55
      try clear c57
      try clear c58
      try clear c58b0
      try clear c58b1
      try clear c59
      try clear c59b0
      try clear c59b1
      try clear c59b2
      try clear c60
      try clear c60b0
      try clear c60b1
      try clear c61
      try clear c61b0
      try clear c62
      try clear c62b0
      try clear c62b1
      try clear c62b2
      try clear c63
      try clear c63b0
      try clear p64
      try clear c65
      try clear c65b0
      try clear c66
      try clear c66b0
      try clear c67
      try clear c67b0
      try clear c69
      try clear c69b0
      try clear c69b1
      try clear c70
      try clear c70b0
      try clear c70b1
      try clear c71
      try clear c71b0
      try clear c72
      try clear c72b0
      try clear c72b1
      try clear c74
      try clear c75
      try clear c76
      try clear c76b0
      try clear c76b1
      try clear c78
      try clear c79
      try clear c81
      try clear c82
      try clear c84
      try clear c84b0
      try clear c86
      try clear c86b0
      try clear c87
      try clear c87b0
      try clear c88
      try clear c88b0
      try clear c90
      try clear c90b0
      try clear c90b1
      try clear c91
      try clear c91b0
      try clear c91b1
      try clear c92
      try clear c92b0
      try clear c93
      try clear c93b0
      try clear c93b1
      try clear c95
      try clear c96
      try clear c97
      try clear c97b0
      try clear c97b1
      try clear c99
      try clear c100
      try clear c102
      try clear c103
      try clear c105
      try clear c105b0
      try clear c106
      try clear c106b0
      try clear c106b1
      try clear c106b2
      try clear c107
      try clear c107b0
      try clear c109
      try clear c109b0
      try clear c110
      try clear c110b0
      try clear c111
      try clear c111b0
      try clear c113
      try clear c113b0
      try clear c113b1
      try clear c114
      try clear c114b0
      try clear c114b1
      try clear c115
      try clear c115b0
      try clear c116
      try clear c116b0
      try clear c116b1
      try clear c118
      try clear c119
      try clear c120
      try clear c120b0
      try clear c120b1
      try clear c122
      try clear c123
      try clear c125
      try clear c126
      try clear c128
      try clear c128b0
      try clear c130
      try clear c130b0
      try clear c131
      try clear c131b0
      try clear c132
      try clear c132b0
      try clear c134
      try clear c134b0
      try clear c134b1
      try clear c135
      try clear c135b0
      try clear c135b1
      try clear c136
      try clear c136b0
      try clear c137
      try clear c137b0
      try clear c137b1
      try clear c139
      try clear c140
      try clear c141
      try clear c141b0
      try clear c141b1
      try clear c143
      try clear c144
      try clear c146
      try clear c147
      try clear c153
      try clear c153b0
      try clear c153b1
      try clear c153b2
      try clear c155
      try clear c156
      try clear c156b0
      try clear c156b1
      try clear c156b2
      try clear c157
      try clear c157b0
      try clear c157b1
      try clear c157b2
      try clear c158
      try clear c158b0
      try clear c158b1
      try clear c158b2
      try clear c159
      try clear c161
      try clear c162
      try clear c163
      try clear c163b0
      try clear c163b1
      try clear c163b2
      try clear c164
      try clear c180
      try clear c180b0
      try clear c183
      try clear c184
      try clear c186
      try clear c186b0
      try clear c186b1
      try clear c186b2
      try clear c187
      try clear c189
      try clear c190
      try clear c190b0
      try clear c190b1
      try clear c190b2
      try clear c194
      try clear c203
      try clear hcz167_0
      try clear hcz167_1
      try clear hcz170_0
      try clear hcz170_1
      try clear hcz172_0
      try clear hcz172_1
      try clear hcz174_0
      try clear hcz174_1
      try clear hcz178_0
      try clear hcz178_1
      try clear hcz191_0
      try clear hcz191_1
      try clear hcz195_0
      try clear hcz195_1
      try clear hcz198_0
      try clear hcz198_1
      try clear hcz200_0
      try clear hcz200_1
      try clear hcz204_0
      try clear hcz204_1
      try clear hcz207_0
      try clear hcz207_1
      try clear hcz210_0
      try clear hcz210_1
      try clear hcz213_0
      try clear hcz213_1
      try clear hcz215_0
      try clear hcz215_1
      try clear hcz217_0
      try clear hcz217_1
      try clear hcz221_0
      try clear hcz221_1
      try clear hfz167_0
      try clear hfz167_1
      try clear hfz170_0
      try clear hfz170_1
      try clear hfz172_0
      try clear hfz172_1
      try clear hfz174_0
      try clear hfz174_1
      try clear hfz178_0
      try clear hfz178_1
      try clear hfz191_0
      try clear hfz191_1
      try clear hfz195_0
      try clear hfz195_1
      try clear hfz198_0
      try clear hfz198_1
      try clear hfz200_0
      try clear hfz200_1
      try clear hfz204_0
      try clear hfz204_1
      try clear hfz207_0
      try clear hfz207_1
      try clear hfz210_0
      try clear hfz210_1
      try clear hfz213_0
      try clear hfz213_1
      try clear hfz215_0
      try clear hfz215_1
      try clear hfz217_0
      try clear hfz217_1
      try clear hfz221_0
      try clear hfz221_1
      try clear hx534_0
      try clear p2
      try clear p5
      try clear p53
      try clear p534
      try clear p6
      try clear p64
      try clear q5
      try clear q53
      try clear q534
      obtain ⟨x39_3, rfl, HA, HK3, HO_29, HO_546001, BK545, HB⟩ := hrel
      cases gk with
      | zero => exact absurd HA.out (by simp [laws_FnPlacesAndLasts.l2])
      | succ k3 =>
       have H := HA.out
       clear HA
       simp only [laws_FnPlacesAndLasts.l2] at H
       by_cases c223 : x39_3 < (wrap64 (t541 - 1))
       rotate_left
       ·rw [if_neg c223] at H
        have c223b0 : decide (x39_3 < (wrap64 (t541 - 1))) = false := decide_eq_false c223
        clear c223
        obtain rfl := Option.some.inj H
        have hcz250_0 : wr.cell? ⟨gb545, 0, none⟩ = some (.int .i64 t541) := (blk_cell BK545.out 0).trans rfl
        have hcz250_1 : wr.cell? ⟨gb545, 1, none⟩ = some (.slice Ao211 t542.length co211) := (blk_cell BK545.out 1).trans rfl
        have hfz250_0 := blk_frozen BK545.out 0
        have hfz250_1 := blk_frozen BK545.out 1
        go_wp2
        go_ret
        exact ⟨by first | rfl | (simp [errW_none, errW_some] <;> rfl) | (simp [*, errW_none, errW_some] <;> rfl), Bl_ HB⟩
       rw [if_pos c223] at H
       have c223b0 : decide (x39_3 < (wrap64 (t541 - 1))) = true := decide_eq_true c223
       clear c223
       replace H := Option.bind_eq_some_iff.mp H
       obtain ⟨⟨t561, t562, t565⟩, A2240, H⟩ := H
       (try dsimp only at H)
       have A224 := Aside0.mk A2240
       clear A2240
       replace H := Option.bind_eq_some_iff.mp H
       obtain ⟨⟨t567, t568⟩, A2250, H⟩ := H
       (try dsimp only at H)
       have A225 := Aside0.mk A2250
       clear A2250
       by_cases c226 : t565 = true
       rotate_left
       ·replace c226 := Bool.eq_false_iff.mpr c226
        subst c226
        rw [if_neg (show ¬ (false = true) by decide)] at H
        exact absurd H (by simp)
       subst c226
       rw [if_pos rfl] at H
       by_cases c227 : t568 = true
       rotate_left
       ·replace c227 := Bool.eq_false_iff.mpr c227
        subst c227
        rw [if_neg (show ¬ (false = true) by decide)] at H
        exact absurd H (by simp)
       subst c227
       rw [if_pos rfl] at H
       replace H := Option.bind_eq_some_iff.mp H
       obtain ⟨t569, A2280, H⟩ := H
       (try dsimp only at H)
       have A228 := Aside0.mk A2280
       clear A2280
       by_cases c229 : (t567 != t569) = true
       ·rw [if_pos c229] at H
        exact absurd H (by simp)
       rw [if_neg c229] at H
       have c229b0 : (t567 != t569) = false := by simpa using c229
       (try (have c229b1 : decide (t567 = t569) = true := by simpa using c229))
       (try (have c229b2 : (t567 == t569) = true := by simpa using c229))
       clear c229
       by_cases c230 : t567 = true
       rotate_left
       ·replace c230 := Bool.eq_false_iff.mpr c230
        subst c230
        rw [if_neg (show ¬ (false = true) by decide)] at H
        have H' := Aside0.mk H
        clear H
        have hcz243_0 : wr.cell? ⟨gb545, 0, none⟩ = some (.int .i64 t541) := (blk_cell BK545.out 0).trans rfl
        have hcz243_1 : wr.cell? ⟨gb545, 1, none⟩ = some (.slice Ao211 t542.length co211) := (blk_cell BK545.out 1).trans rfl
        have hfz243_0 := blk_frozen BK545.out 0
        have hfz243_1 := blk_frozen BK545.out 1
        go_wp2_with (first | ((with_reducible refine gate_callee (f := 20) rfl ?_); refine gl_ (some 308) rfl rfl Try.func20 (by kernel_rfl) rfl #[.agg #[.int .i64 t541, .slice Ao211 t542.length co211], .int .i64 (t542.length : Int), .int .i64 x39_3] rfl ?_; (with_reducible refine (impl_AddRung.calls k3 t541 _ _ t542 (t542.length : Int) x39_3 t561 t562 true _ ?side1 ?side2 A224.out).mono ?_); (case side1 => exact Cl_ (Kd.R_reads' HO_546001.out).2.2); (case side2 => exact (Kd.R_reads' HO_546001.out).2.1); rintro e w244 ⟨v563, rfl, ho0, hb⟩; refine ⟨_, rfl, ?_⟩; have HO564 := Aside0.mk (Kd.R_lower (Kd.R_new' (Kd.R_new' ho0 (Kd.R_lt (Rl_ HO_29.out))) (Kd.R_lt (Rl_ HO_546001.out))) (below_size (Bl_ HB))); replace HO_29 := Aside0.mk (Kd.R_elder' (Rl_ HO_29.out) (Kd.R_base ho0) hb); replace HO_546001 := Aside0.mk (Kd.R_elder' (Rl_ HO_546001.out) (Kd.R_base ho0) hb); replace BK545 := blkB_ BK545 hb; replace HB := Aside0.mk (below_step (Bl_ HB) hb); (try clear hb); (try clear hb2); (try clear hk); (try clear hi); (try clear ho0)) | ((with_reducible refine gate_dst (N := 40) rfl ?_); (try (refine gate_guard (by rfl) ?_; dsimp only)); refine box_event ?hg (N := 40) ?hd (cs := #[.int .i64 0, .slice none 0 0]) (t := 35) ?hr ?_; (case hd => rfl); (case hg => rfl); (case hr => first | (go_simp; done) | (go_simp; rfl)); intro gb566 hg w245 hbox hb; replace HO_29 := Aside0.mk (Kd.R_below (Rl_ HO_29.out) hb); replace HO_546001 := Aside0.mk (Kd.R_below (Rl_ HO_546001.out) hb); replace HO564 := Aside0.mk (Kd.R_below (Rl_ HO564.out) hb); have BK566 := Aside0.mk (hbox); have GW566 := Aside0.mk ((by rw [hg]; exact (below_size (Bl_ HB)) : w.heap.size ≤ gb566)); have GE566 := Aside0.mk ((by rw [hg]; exact (below_size (Bl_ HB)) : w.heap.size ≤ gb566)); replace HB := Aside0.mk (below_step (Bl_ HB) hb); have NB545_566 := nbl_ BK545 hg; have NB566_545 := nbg_ BK545 hg; replace BK545 := blkB_ BK545 hb; clear hb hbox hg; have hnb246 := NB566_545.out; have hnc246 := NB545_566.out; have hcz247_0 : w245.cell? ⟨gb566, 0, none⟩ = some (.int .i64 0) := (blk_cell BK566.out 0).trans rfl; have hcz247_1 : w245.cell? ⟨gb566, 1, none⟩ = some (.slice none 0 0) := (blk_cell BK566.out 1).trans rfl; have hfz247_0 := blk_frozen BK566.out 0; have hfz247_1 := blk_frozen BK566.out 1; obtain ⟨Ao248, co248, eo248⟩ := Kd.R_slice HO564.out; subst eo248) | ((with_reducible refine gate_callee (f := 19) rfl ?_); refine gl_ (some 313) rfl rfl Try.func19 (by kernel_rfl) rfl #[.agg #[.int .i64 t561, .slice Ao248 t562.length co248]] rfl ?_; (with_reducible refine (impl_IsLeast.calls k3 t561 _ _ t562 false true _ ?side1 ?side2 A225.out).mono ?_); (case side1 => refine (Kd.R_reads' (e := 3) (base := w.heap.size) (ok := fun k_ => ((True ∧ some k_ ≠ (.slice Ao219 t546.length co219 : Value).ownBlock) ∧ some k_ ≠ (.slice Ao211 t542.length co211 : Value).ownBlock)) (n := t562.length) (c := co248) ?_).2.2; exact (Rl_ (Rf2_ HO564.out BK566.out (by decide) (.int .i64 t561) (.slice Ao248 t562.length co248)))); (case side2 => exact (Kd.R_reads' HO564.out).2.1); rintro e w249 ⟨rfl, hb⟩; refine ⟨_, rfl, ?_⟩; replace HO_29 := Aside0.mk (Kd.R_below (Rl_ (Rf2_ HO_29.out BK566.out (by decide) (.int .i64 t561) (.slice Ao248 t562.length co248))) hb); replace HO_546001 := Aside0.mk (Kd.R_below (Rl_ (Rf2_ HO_546001.out BK566.out (by decide) (.int .i64 t561) (.slice Ao248 t562.length co248))) hb); replace HO564 := Aside0.mk (Kd.R_below (Rl_ (Rf2_ HO564.out BK566.out (by decide) (.int .i64 t561) (.slice Ao248 t562.length co248))) hb); replace BK545 := blkF_ BK545 NB545_566 hb; replace BK566 := Aside0.mk (blk_below (g := gb566) (o := .cells #[.int .i64 t561, .slice Ao248 t562.length co248] 35 (0, 0)) (by (with_reducible repeat (first | refine blk_drewN ?_ _ | refine blk_drew ?_ | refine blk_alloc ?_ _)); refine blk_put (cs := #[.int .i64 t561, .slice none 0 0]) ?_ 1 _ rfl; (with_reducible repeat (first | refine blk_drewN ?_ _ | refine blk_drew ?_ | refine blk_alloc ?_ _)); refine blk_put (cs := #[.int .i64 0, .slice none 0 0]) ?_ 0 _ rfl; (with_reducible repeat (first | refine blk_drewN ?_ _ | refine blk_drew ?_ | refine blk_alloc ?_ _)); exact BK566.out) hb); replace HB := Aside0.mk (below_step (Bl_ HB) hb); (try clear hb); (try clear hb2); (try clear hk); (try clear hi)) | (go_at_call 13; (with_reducible refine (laws_nHas.calls k3 _ _ t546 x39_3 t569 _ ?side1 ?side2 A228.out).mono ?_); (case side1 => exact Cl_ (Kd.R_reads' HO_29.out).2.2); (case side2 => exact (Kd.R_reads' HO_29.out).2.1); rintro e w' ⟨rfl, ⟨nd, rfl⟩⟩))
        go_roundg k3
        case measure => have := HJ11.out; have := HJ55.out; have := HK3.out; omega
        case rel => exact ⟨(wrap64 (x39_3 + 1)), (by first | rfl | (simp; done) | (simp [*]; done)), H', ⟨by have := HJ11.out; have := HJ55.out; have := HK3.out; omega⟩, ⟨Rl_ (Kd.R_mono HO_29.out (fun _ hk => hk.1))⟩, ⟨Rl_ (Kd.R_mono HO_546001.out (fun _ hk => hk.1))⟩, ⟨bl_ BK545⟩, ⟨Bl_ HB⟩⟩
       subst c230
       rw [if_pos rfl] at H
       replace H := Option.bind_eq_some_iff.mp H
       obtain ⟨⟨t570, t571⟩, A2310, H⟩ := H
       (try dsimp only at H)
       have A231 := Aside0.mk A2310
       clear A2310
       by_cases c232 : t571 = true
       rotate_left
       ·replace c232 := Bool.eq_false_iff.mpr c232
        subst c232
        rw [if_neg (show ¬ (false = true) by decide)] at H
        exact absurd H (by simp)
       subst c232
       rw [if_pos rfl] at H
       by_cases c233 : (t570 == t554) = true
       ·rw [if_pos c233] at H
        exact absurd H (by simp)
       rw [if_neg c233] at H
       have c233b0 : (t570 == t554) = false := by simpa using c233
       (try (have c233b1 : decide (t570 = t554) = false := by simpa using c233))
       (try (have c233b2 : (t570 == t554) = false := by simpa using c233))
       (try (have c233b3 : ¬ (t570 = t554) := by simpa using c233))
       clear c233
       have H' := Aside0.mk H
       clear H
       have hcz234_0 : wr.cell? ⟨gb545, 0, none⟩ = some (.int .i64 t541) := (blk_cell BK545.out 0).trans rfl
       have hcz234_1 : wr.cell? ⟨gb545, 1, none⟩ = some (.slice Ao211 t542.length co211) := (blk_cell BK545.out 1).trans rfl
       have hfz234_0 := blk_frozen BK545.out 0
       have hfz234_1 := blk_frozen BK545.out 1
       go_wp2_with (first | ((with_reducible refine gate_callee (f := 20) rfl ?_); refine gl_ (some 308) rfl rfl Try.func20 (by kernel_rfl) rfl #[.agg #[.int .i64 t541, .slice Ao211 t542.length co211], .int .i64 (t542.length : Int), .int .i64 x39_3] rfl ?_; (with_reducible refine (impl_AddRung.calls k3 t541 _ _ t542 (t542.length : Int) x39_3 t561 t562 true _ ?side1 ?side2 A224.out).mono ?_); (case side1 => exact Cl_ (Kd.R_reads' HO_546001.out).2.2); (case side2 => exact (Kd.R_reads' HO_546001.out).2.1); rintro e w235 ⟨v563, rfl, ho0, hb⟩; refine ⟨_, rfl, ?_⟩; have HO564 := Aside0.mk (Kd.R_lower (Kd.R_new' (Kd.R_new' ho0 (Kd.R_lt (Rl_ HO_29.out))) (Kd.R_lt (Rl_ HO_546001.out))) (below_size (Bl_ HB))); replace HO_29 := Aside0.mk (Kd.R_elder' (Rl_ HO_29.out) (Kd.R_base ho0) hb); replace HO_546001 := Aside0.mk (Kd.R_elder' (Rl_ HO_546001.out) (Kd.R_base ho0) hb); replace BK545 := blkB_ BK545 hb; replace HB := Aside0.mk (below_step (Bl_ HB) hb); (try clear hb); (try clear hb2); (try clear hk); (try clear hi); (try clear ho0)) | ((with_reducible refine gate_dst (N := 40) rfl ?_); (try (refine gate_guard (by rfl) ?_; dsimp only)); refine box_event ?hg (N := 40) ?hd (cs := #[.int .i64 0, .slice none 0 0]) (t := 35) ?hr ?_; (case hd => rfl); (case hg => rfl); (case hr => first | (go_simp; done) | (go_simp; rfl)); intro gb566 hg w236 hbox hb; replace HO_29 := Aside0.mk (Kd.R_below (Rl_ HO_29.out) hb); replace HO_546001 := Aside0.mk (Kd.R_below (Rl_ HO_546001.out) hb); replace HO564 := Aside0.mk (Kd.R_below (Rl_ HO564.out) hb); have BK566 := Aside0.mk (hbox); have GW566 := Aside0.mk ((by rw [hg]; exact (below_size (Bl_ HB)) : w.heap.size ≤ gb566)); have GE566 := Aside0.mk ((by rw [hg]; exact (below_size (Bl_ HB)) : w.heap.size ≤ gb566)); replace HB := Aside0.mk (below_step (Bl_ HB) hb); have NB545_566 := nbl_ BK545 hg; have NB566_545 := nbg_ BK545 hg; replace BK545 := blkB_ BK545 hb; clear hb hbox hg; have hnb237 := NB566_545.out; have hnc237 := NB545_566.out; have hcz238_0 : w236.cell? ⟨gb566, 0, none⟩ = some (.int .i64 0) := (blk_cell BK566.out 0).trans rfl; have hcz238_1 : w236.cell? ⟨gb566, 1, none⟩ = some (.slice none 0 0) := (blk_cell BK566.out 1).trans rfl; have hfz238_0 := blk_frozen BK566.out 0; have hfz238_1 := blk_frozen BK566.out 1; obtain ⟨Ao239, co239, eo239⟩ := Kd.R_slice HO564.out; subst eo239) | ((with_reducible refine gate_callee (f := 19) rfl ?_); refine gl_ (some 313) rfl rfl Try.func19 (by kernel_rfl) rfl #[.agg #[.int .i64 t561, .slice Ao239 t562.length co239]] rfl ?_; (with_reducible refine (impl_IsLeast.calls k3 t561 _ _ t562 true true _ ?side1 ?side2 A225.out).mono ?_); (case side1 => refine (Kd.R_reads' (e := 3) (base := w.heap.size) (ok := fun k_ => ((True ∧ some k_ ≠ (.slice Ao219 t546.length co219 : Value).ownBlock) ∧ some k_ ≠ (.slice Ao211 t542.length co211 : Value).ownBlock)) (n := t562.length) (c := co239) ?_).2.2; exact (Rl_ (Rf2_ HO564.out BK566.out (by decide) (.int .i64 t561) (.slice Ao239 t562.length co239)))); (case side2 => exact (Kd.R_reads' HO564.out).2.1); rintro e w240 ⟨rfl, hb⟩; refine ⟨_, rfl, ?_⟩; replace HO_29 := Aside0.mk (Kd.R_below (Rl_ (Rf2_ HO_29.out BK566.out (by decide) (.int .i64 t561) (.slice Ao239 t562.length co239))) hb); replace HO_546001 := Aside0.mk (Kd.R_below (Rl_ (Rf2_ HO_546001.out BK566.out (by decide) (.int .i64 t561) (.slice Ao239 t562.length co239))) hb); replace HO564 := Aside0.mk (Kd.R_below (Rl_ (Rf2_ HO564.out BK566.out (by decide) (.int .i64 t561) (.slice Ao239 t562.length co239))) hb); replace BK545 := blkF_ BK545 NB545_566 hb; replace BK566 := Aside0.mk (blk_below (g := gb566) (o := .cells #[.int .i64 t561, .slice Ao239 t562.length co239] 35 (0, 0)) (by (with_reducible repeat (first | refine blk_drewN ?_ _ | refine blk_drew ?_ | refine blk_alloc ?_ _)); refine blk_put (cs := #[.int .i64 t561, .slice none 0 0]) ?_ 1 _ rfl; (with_reducible repeat (first | refine blk_drewN ?_ _ | refine blk_drew ?_ | refine blk_alloc ?_ _)); refine blk_put (cs := #[.int .i64 0, .slice none 0 0]) ?_ 0 _ rfl; (with_reducible repeat (first | refine blk_drewN ?_ _ | refine blk_drew ?_ | refine blk_alloc ?_ _)); exact BK566.out) hb); replace HB := Aside0.mk (below_step (Bl_ HB) hb); (try clear hb); (try clear hb2); (try clear hk); (try clear hi)) | (go_at_call 13; (with_reducible refine (laws_nHas.calls k3 _ _ t546 x39_3 t569 _ ?side1 ?side2 A228.out).mono ?_); (case side1 => exact Cl_ (Kd.R_reads' HO_29.out).2.2); (case side2 => exact (Kd.R_reads' HO_29.out).2.1); rintro e w' ⟨rfl, ⟨nd, rfl⟩⟩; have hcz241_0 : w240.cell? ⟨gb566, 0, none⟩ = some (.int .i64 t561) := (blk_cell BK566.out 0).trans rfl; have hcz241_1 : w240.cell? ⟨gb566, 1, none⟩ = some (.slice Ao239 t562.length co239) := (blk_cell BK566.out 1).trans rfl; have hfz241_0 := blk_frozen BK566.out 0; have hfz241_1 := blk_frozen BK566.out 1) | ((with_reducible refine gate_callee (f := 17) rfl ?_); refine gl_ (some 332) rfl rfl Try.func17 (by kernel_rfl) rfl #[.agg #[.int .i64 t561, .slice Ao239 t562.length co239]] rfl ?_; (with_reducible refine (impl_LastWins.calls k3 t561 _ _ t562 t570 true _ ?side1 ?side2 A231.out).mono ?_); (case side1 => exact Cl_ (Kd.R_reads' HO564.out).2.2); (case side2 => exact (Kd.R_reads' HO564.out).2.1); rintro e w242 ⟨rfl, hb⟩; refine ⟨_, rfl, ?_⟩; replace HO_29 := Aside0.mk (Kd.R_below (Rl_ HO_29.out) hb); replace HO_546001 := Aside0.mk (Kd.R_below (Rl_ HO_546001.out) hb); replace HO564 := Aside0.mk (Kd.R_below (Rl_ HO564.out) hb); replace BK545 := blkB_ BK545 hb; replace BK566 := blkB_ BK566 hb; replace HB := Aside0.mk (below_step (Bl_ HB) hb); (try clear hb); (try clear hb2); (try clear hk); (try clear hi)))
       go_roundg k3
       case measure => have := HJ11.out; have := HJ55.out; have := HK3.out; omega
       case rel => exact ⟨(wrap64 (x39_3 + 1)), (by first | rfl | (simp; done) | (simp [*]; done)), H', ⟨by have := HJ11.out; have := HJ55.out; have := HK3.out; omega⟩, ⟨Rl_ (Kd.R_mono HO_29.out (fun _ hk => hk.1))⟩, ⟨Rl_ (Kd.R_mono HO_546001.out (fun _ hk => hk.1))⟩, ⟨bl_ BK545⟩, ⟨Bl_ HB⟩⟩

/-- THE ONE PURE STATEMENT of laws_FnPlacesAndLasts: yours. -/
def laws_FnPlacesAndLasts.Pure : Prop := ∀ (l0 : List Int) (l1 : List Int), l0.length ≤ maxLen → l0.length * 1 ≤ 140737488351232 → (∀ x ∈ l0, (Lit.int .u8 x).wf = true) → l1.length ≤ maxLen → l1.length * 1 ≤ 140737488351232 → (∀ x ∈ l1, (Lit.int .u8 x).wf = true) → ∃ k, laws_FnPlacesAndLasts.f k l0 l1 = some true
theorem laws_FnPlacesAndLasts.walk (P : laws_FnPlacesAndLasts.Pure) (a0 : Option Addr) (len0 cap0 : Nat) (z0 : List Int) (a1 : Option Addr) (len1 cap1 : Nat) (z1 : List Int) (w : World) (w0 : (a0 = none ∧ len0 = 0 ∧ cap0 = 0 ∧ z0 = []) ∨ ∃ x, a0 = some x ∧ len0 ≤ cap0 ∧ cap0 ≤ maxLen ∧ z0.length = cap0 ∧ (∀ i, i < z0.length → w.cell? (x.add i) = some (.int .u8 (z0.getD i 0))) ∧ ∀ n ∈ z0, (Lit.int .u8 n).wf = true) (y0 : len0 * 1 ≤ 140737488351232) (w1 : (a1 = none ∧ len1 = 0 ∧ cap1 = 0 ∧ z1 = []) ∨ ∃ x, a1 = some x ∧ len1 ≤ cap1 ∧ cap1 ≤ maxLen ∧ z1.length = cap1 ∧ (∀ i, i < z1.length → w.cell? (x.add i) = some (.int .u8 (z1.getD i 0))) ∧ ∀ n ∈ z1, (Lit.int .u8 n).wf = true) (y1 : len1 * 1 ≤ 140737488351232) :
 Calls Try.prog 3 #[.slice a0 len0 cap0, .slice a1 len1 cap1] w fun e w' => e = .returned (.bool true) ∧ Below w.heap.size w w' := by
 obtain ⟨l0, rfl, hr0, hm0, hw0, hc0⟩ := ReadsInt.ofRowC w0
 obtain ⟨l1, rfl, hr1, hm1, hw1, hc1⟩ := ReadsInt.ofRowC w1
 obtain ⟨k, h⟩ := P l0 l1 hm0 y0 hw0 hm1 y1 hw1
 refine (laws_FnPlacesAndLasts.calls k _ _ l0 _ _ l1 true w (Kd.C_of_reads (d := (0 : Int)) (h1 := fun _ => rfl) hr0) hc0 (Kd.C_of_reads (d := (0 : Int)) (h1 := fun _ => rfl) hr1) hc1 h).mono ?_
 rintro e w' ⟨rfl, hd⟩
 exact ⟨rfl, hd⟩

end Go.Proofs.Ytkejpggjmjlfpaa.B
