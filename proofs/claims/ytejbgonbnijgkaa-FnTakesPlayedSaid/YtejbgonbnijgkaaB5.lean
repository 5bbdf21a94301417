/- The walks of functions of the given program and of its reference: each call of the machine returns what the plain Lean function of the same name says. Conditions: those in each statement. (Written by this session's program over the kit's print.) -/
import Derived.Test.YtejbgonbnijgkaaB0
import Derived.Test.YtejbgonbnijgkaaB1
import Derived.Test.YtejbgonbnijgkaaB2
import Derived.Test.YtejbgonbnijgkaaB3
import Derived.Test.YtejbgonbnijgkaaB4
namespace Go.Proofs.Ytejbgonbnijgkaa.B
open Go.RowKit Go.Proofs.YtejbgonbnijgkaaW.PrintWords Go.Proofs.YtejbgonbnijgkaaW.PrintLast Go.Proofs.YtejbgonbnijgkaaW.PrintMore
attribute [local go_sem] max2_int min2_int max_two min_two max_three min_three max_four min_four   -- for this text's walks alone
set_option linter.unusedVariables false
set_option linter.unusedSimpArgs false

/-! ### laws_FnTakesPlayed: function 5 -/
mutual
def laws_FnTakesPlayed.j1 : Nat → List Int → Option (Bool)
 | 0, _ => none
 | k + 1, x1 => (spec_DrawPlayTakes.f k x1).bind fun bt1363 => ((impl_PlayTakes.f k bt1363.1 bt1363.2.1 bt1363.2.2).bind fun bt1371 => ((spec_PlayTakes.f k bt1363.1 bt1363.2.1 bt1363.2.2).bind fun bt1377 => (if (bt1371.2.2 != bt1377.2.2) = true then (none) else ((laws_nLadder.f k bt1371.1 bt1371.2.1 bt1377.1 bt1377.2.1).bind fun t1383 => (if t1383 = true then (if bt1371.2.2 = true then (some ((bt1371.2.1.length : Int) == (wrap64 ((bt1363.2.1.length : Int) - (bt1363.2.2.length : Int))))) else (some true)) else (none))))))
def laws_FnTakesPlayed.l0 : Nat → List Int → List Int → Int → List Int → Int → Int → Int → List Int → Option (Bool)
 | 0, _, _, _, _, _, _, _, _ => none
 | k + 1, x1, x6, x18, x268, x269, x270, x1291000, x1291001 => if x270 < x269 then (if 0 ≤ x270 then (if x270 < (x268.length : Int) then ((impl_PlayTakes.f k x1291000 x1291001 (([rd x268 x270] : List Int))).bind fun bt1342 => (if bt1342.2.2 = true then ((impl_IsTaking.f k bt1342.1 bt1342.2.1).bind fun t1348 => (if t1348 = true then ((impl_TakeWinner.f k bt1342.1 bt1342.2.1).bind fun bt1349 => (if bt1349.2 = true then (if bt1349.1 = true then (none) else (laws_FnTakesPlayed.l0 k x1 x6 x18 x268 x269 (wrap64 (x270 + 1)) x1291000 x1291001)) else (none))) else (laws_FnTakesPlayed.l0 k x1 x6 x18 x268 x269 (wrap64 (x270 + 1)) x1291000 x1291001))) else (none))) else (none)) else (none)) else (if (x6.length : Int) > 1 then (if 1 ≤ (x6.length : Int) then ((impl_PlayTakes.f k x1291000 x1291001 (x6.take 1)).bind fun bt1355 => ((impl_TakeLength.f k bt1355.1 bt1355.2.1).bind fun bt1361 => (if bt1355.2.2 = true then (if bt1361.2 = true then (if bt1361.1 = (wrap64 (x18 - 1)) then (laws_FnTakesPlayed.j1 k x1) else (none)) else (none)) else (none)))) else (none)) else (laws_FnTakesPlayed.j1 k x1))
end
def laws_FnTakesPlayed.f (k : Nat) (l0 : List Int) (l1 : List Int) : Option (Bool) := (laws_big.f l0 l1).bind fun t1285 => (if t1285 = true then (some true) else ((spec_DrawTakeLine.f k l0).bind fun bt1286 => ((impl_TakeLine.f k bt1286.1 bt1286.2).bind fun bt1291 => ((spec_TakeLine.f k bt1286.1 bt1286.2).bind fun bt1295 => ((impl_TakeWinner.f k bt1286.1 bt1286.2).bind fun bt1299 => ((spec_TakeWinner.f k bt1286.1 bt1286.2).bind fun bt1301 => ((impl_GoodTakes.f k bt1286.1 bt1286.2).bind fun bt1303 => ((spec_GoodTakes.f k bt1286.1 bt1286.2).bind fun bt1307 => ((impl_TakeLength.f k bt1286.1 bt1286.2).bind fun bt1311 => ((spec_TakeLength.f k bt1286.1 bt1286.2).bind fun bt1313 => ((impl_CountHomeSets.f k bt1286.1 bt1286.2).bind fun bt1315 => ((spec_CountHomeSets.f k bt1286.1 bt1286.2).bind fun bt1317 => ((impl_LeastTakes.f k bt1286.1 bt1286.2).bind fun bt1319 => ((spec_LeastTakes.f k bt1286.1 bt1286.2).bind fun bt1321 => (if (bt1291.2 != bt1295.2) = true then (none) else ((laws_nSame.f k bt1291.1 bt1295.1).bind fun t1323 => (if t1323 = true then (if (bt1299.2 != bt1301.2) = true then (none) else (if (bt1299.1 != bt1301.1) = true then (none) else (if (bt1303.2 != bt1307.2) = true then (none) else ((laws_nSame.f k bt1303.1 bt1307.1).bind fun t1324 => (if t1324 = true then (if (bt1311.2 != bt1313.2) = true then (none) else (if bt1311.1 = bt1313.1 then (if (bt1315.2 != bt1317.2) = true then (none) else (if bt1315.1 = bt1317.1 then (if (bt1319.2 != bt1321.2) = true then (none) else (if bt1319.1 = bt1321.1 then ((impl_IsTaking.f k bt1286.1 bt1286.2).bind fun t1325 => (if (bt1291.2 != t1325) = true then (none) else ((impl_IsTaking.f k bt1286.1 bt1286.2).bind fun t1326 => ((spec_IsTaking.f k bt1286.1 bt1286.2).bind fun t1327 => (if (t1326 != t1327) = true then (none) else (if (bt1299.2 != bt1291.2) = true then (none) else (if (bt1303.2 != bt1291.2) = true then (none) else (if (bt1311.2 != bt1291.2) = true then (none) else (if (bt1315.2 != bt1291.2) = true then (none) else (if (bt1319.2 != bt1291.2) = true then (none) else (if bt1291.2 = true then ((impl_PlayTakes.f k bt1286.1 bt1286.2 bt1291.1).bind fun bt1328 => (if (bt1291.1.length : Int) = bt1311.1 then (if (bt1299.1 != ((Int.tmod bt1311.1 2) == 1)) = true then (none) else (if (bt1299.1 != (decide ((bt1303.1.length : Int) > 0))) = true then (none) else (if bt1299.1 = true then (if 0 < (bt1291.1.length : Int) then ((laws_nHas.f k bt1303.1 (rd bt1291.1 0)).bind fun t1335 => (if t1335 = true then (if bt1328.2.2 = true then ((impl_IsTaking.f k bt1328.1 bt1328.2.1).bind fun t1336 => (if t1336 = true then (none) else (if bt1311.1 < bt1319.1 then (none) else (if bt1319.1 < 1 then (none) else (if bt1315.1 < 1 then (none) else (laws_FnTakesPlayed.l0 k l1 bt1291.1 bt1311.1 bt1303.1 (bt1303.1.length : Int) 0 bt1286.1 bt1286.2)))))) else (none)) else (none))) else (none)) else (if bt1328.2.2 = true then ((impl_IsTaking.f k bt1328.1 bt1328.2.1).bind fun t1337 => (if t1337 = true then (none) else (if bt1311.1 < bt1319.1 then (none) else (if bt1319.1 < 1 then (none) else (if bt1315.1 < 1 then (none) else (laws_FnTakesPlayed.l0 k l1 bt1291.1 bt1311.1 bt1303.1 (bt1303.1.length : Int) 0 bt1286.1 bt1286.2)))))) else (none))))) else (none))) else (laws_FnTakesPlayed.j1 k l1)))))))))))) else (none))) else (none))) else (none))) else (none)))))) else (none))))))))))))))))))
theorem laws_FnTakesPlayed.mono_l : ∀ k, (∀ y0, LeO (laws_FnTakesPlayed.j1 k y0) (laws_FnTakesPlayed.j1 (k + 1) y0)) ∧ (∀ y0 y1 y2 y3 y4 y5 y6 y7, LeO (laws_FnTakesPlayed.l0 k y0 y1 y2 y3 y4 y5 y6 y7) (laws_FnTakesPlayed.l0 (k + 1) y0 y1 y2 y3 y4 y5 y6 y7))
 | 0 => ⟨fun _ r h => by simp [laws_FnTakesPlayed.j1] at h, fun _ _ _ _ _ _ _ _ r h => by simp [laws_FnTakesPlayed.l0] at h⟩
 | k + 1 => by
  obtain ⟨ih0, ih1⟩ := laws_FnTakesPlayed.mono_l k
  refine ⟨?_, ?_⟩
  ·intro y0
   unfold laws_FnTakesPlayed.j1
   repeat' first
   | (with_reducible exact ih0 _)
   | (with_reducible exact ih1 _ _ _ _ _ _ _ _)
   | (with_reducible exact impl_CountHomeSets.mono _ _ _)
   | (with_reducible exact impl_GoodTakes.mono _ _ _)
   | (with_reducible exact impl_IsTaking.mono _ _ _)
   | (with_reducible exact impl_LeastTakes.mono _ _ _)
   | (with_reducible exact impl_PlayTakes.mono _ _ _ _)
   | (with_reducible exact impl_TakeLength.mono _ _ _)
   | (with_reducible exact impl_TakeLine.mono _ _ _)
   | (with_reducible exact impl_TakeWinner.mono _ _ _)
   | (with_reducible exact laws_nHas.mono _ _ _)
   | (with_reducible exact laws_nLadder.mono _ _ _ _ _)
   | (with_reducible exact laws_nSame.mono _ _ _)
   | (with_reducible exact spec_CountHomeSets.mono _ _ _)
   | (with_reducible exact spec_DrawPlayTakes.mono _ _)
   | (with_reducible exact spec_DrawTakeLine.mono _ _)
   | (with_reducible exact spec_GoodTakes.mono _ _ _)
   | (with_reducible exact spec_IsTaking.mono _ _ _)
   | (with_reducible exact spec_LeastTakes.mono _ _ _)
   | (with_reducible exact spec_PlayTakes.mono _ _ _ _)
   | (with_reducible exact spec_TakeLength.mono _ _ _)
   | (with_reducible exact spec_TakeLine.mono _ _ _)
   | (with_reducible exact spec_TakeWinner.mono _ _ _)
   | (with_reducible exact LeO.refl _)
   | (with_reducible exact LeO.none _)
   | (with_reducible refine LeO.ite ?_ ?_)
   | (with_reducible refine LeO.bind ?_ (fun _ => ?_))
   | exact ih0 _
   | exact ih1 _ _ _ _ _ _ _ _
   | exact impl_CountHomeSets.mono _ _ _
   | exact impl_GoodTakes.mono _ _ _
   | exact impl_IsTaking.mono _ _ _
   | exact impl_LeastTakes.mono _ _ _
   | exact impl_PlayTakes.mono _ _ _ _
   | exact impl_TakeLength.mono _ _ _
   | exact impl_TakeLine.mono _ _ _
   | exact impl_TakeWinner.mono _ _ _
   | exact laws_nHas.mono _ _ _
   | exact laws_nLadder.mono _ _ _ _ _
   | exact laws_nSame.mono _ _ _
   | exact spec_CountHomeSets.mono _ _ _
   | exact spec_DrawPlayTakes.mono _ _
   | exact spec_DrawTakeLine.mono _ _
   | exact spec_GoodTakes.mono _ _ _
   | exact spec_IsTaking.mono _ _ _
   | exact spec_LeastTakes.mono _ _ _
   | exact spec_PlayTakes.mono _ _ _ _
   | exact spec_TakeLength.mono _ _ _
   | exact spec_TakeLine.mono _ _ _
   | exact spec_TakeWinner.mono _ _ _
   | exact LeO.none _
   | refine LeO.ite ?_ ?_
   | refine LeO.bind ?_ (fun _ => ?_)
  ·intro y0 y1 y2 y3 y4 y5 y6 y7
   unfold laws_FnTakesPlayed.l0
   repeat' first
   | (with_reducible exact ih0 _)
   | (with_reducible exact ih1 _ _ _ _ _ _ _ _)
   | (with_reducible exact impl_CountHomeSets.mono _ _ _)
   | (with_reducible exact impl_GoodTakes.mono _ _ _)
   | (with_reducible exact impl_IsTaking.mono _ _ _)
   | (with_reducible exact impl_LeastTakes.mono _ _ _)
   | (with_reducible exact impl_PlayTakes.mono _ _ _ _)
   | (with_reducible exact impl_TakeLength.mono _ _ _)
   | (with_reducible exact impl_TakeLine.mono _ _ _)
   | (with_reducible exact impl_TakeWinner.mono _ _ _)
   | (with_reducible exact laws_nHas.mono _ _ _)
   | (with_reducible exact laws_nLadder.mono _ _ _ _ _)
   | (with_reducible exact laws_nSame.mono _ _ _)
   | (with_reducible exact spec_CountHomeSets.mono _ _ _)
   | (with_reducible exact spec_DrawPlayTakes.mono _ _)
   | (with_reducible exact spec_DrawTakeLine.mono _ _)
   | (with_reducible exact spec_GoodTakes.mono _ _ _)
   | (with_reducible exact spec_IsTaking.mono _ _ _)
   | (with_reducible exact spec_LeastTakes.mono _ _ _)
   | (with_reducible exact spec_PlayTakes.mono _ _ _ _)
   | (with_reducible exact spec_TakeLength.mono _ _ _)
   | (with_reducible exact spec_TakeLine.mono _ _ _)
   | (with_reducible exact spec_TakeWinner.mono _ _ _)
   | (with_reducible exact LeO.refl _)
   | (with_reducible exact LeO.none _)
   | (with_reducible refine LeO.ite ?_ ?_)
   | (with_reducible refine LeO.bind ?_ (fun _ => ?_))
   | exact ih0 _
   | exact ih1 _ _ _ _ _ _ _ _
   | exact impl_CountHomeSets.mono _ _ _
   | exact impl_GoodTakes.mono _ _ _
   | exact impl_IsTaking.mono _ _ _
   | exact impl_LeastTakes.mono _ _ _
   | exact impl_PlayTakes.mono _ _ _ _
   | exact impl_TakeLength.mono _ _ _
   | exact impl_TakeLine.mono _ _ _
   | exact impl_TakeWinner.mono _ _ _
   | exact laws_nHas.mono _ _ _
   | exact laws_nLadder.mono _ _ _ _ _
   | exact laws_nSame.mono _ _ _
   | exact spec_CountHomeSets.mono _ _ _
   | exact spec_DrawPlayTakes.mono _ _
   | exact spec_DrawTakeLine.mono _ _
   | exact spec_GoodTakes.mono _ _ _
   | exact spec_IsTaking.mono _ _ _
   | exact spec_LeastTakes.mono _ _ _
   | exact spec_PlayTakes.mono _ _ _ _
   | exact spec_TakeLength.mono _ _ _
   | exact spec_TakeLine.mono _ _ _
   | exact spec_TakeWinner.mono _ _ _
   | exact LeO.none _
   | refine LeO.ite ?_ ?_
   | refine LeO.bind ?_ (fun _ => ?_)
theorem laws_FnTakesPlayed.mono : ∀ a0 a1 k, LeO (laws_FnTakesPlayed.f k a0 a1) (laws_FnTakesPlayed.f (k + 1) a0 a1) := by
 intro a0 a1 k
 obtain ⟨ih0, ih1⟩ := laws_FnTakesPlayed.mono_l k
 unfold laws_FnTakesPlayed.f
 repeat' first
  | (with_reducible exact ih0 _)
  | (with_reducible exact ih1 _ _ _ _ _ _ _ _)
  | (with_reducible exact impl_CountHomeSets.mono _ _ _)
  | (with_reducible exact impl_GoodTakes.mono _ _ _)
  | (with_reducible exact impl_IsTaking.mono _ _ _)
  | (with_reducible exact impl_LeastTakes.mono _ _ _)
  | (with_reducible exact impl_PlayTakes.mono _ _ _ _)
  | (with_reducible exact impl_TakeLength.mono _ _ _)
  | (with_reducible exact impl_TakeLine.mono _ _ _)
  | (with_reducible exact impl_TakeWinner.mono _ _ _)
  | (with_reducible exact laws_nHas.mono _ _ _)
  | (with_reducible exact laws_nLadder.mono _ _ _ _ _)
  | (with_reducible exact laws_nSame.mono _ _ _)
  | (with_reducible exact spec_CountHomeSets.mono _ _ _)
  | (with_reducible exact spec_DrawPlayTakes.mono _ _)
  | (with_reducible exact spec_DrawTakeLine.mono _ _)
  | (with_reducible exact spec_GoodTakes.mono _ _ _)
  | (with_reducible exact spec_IsTaking.mono _ _ _)
  | (with_reducible exact spec_LeastTakes.mono _ _ _)
  | (with_reducible exact spec_PlayTakes.mono _ _ _ _)
  | (with_reducible exact spec_TakeLength.mono _ _ _)
  | (with_reducible exact spec_TakeLine.mono _ _ _)
  | (with_reducible exact spec_TakeWinner.mono _ _ _)
  | (with_reducible exact LeO.refl _)
  | (with_reducible exact LeO.none _)
  | (with_reducible refine LeO.ite ?_ ?_)
  | (with_reducible refine LeO.bind ?_ (fun _ => ?_))
  | exact ih0 _
  | exact ih1 _ _ _ _ _ _ _ _
  | exact impl_CountHomeSets.mono _ _ _
  | exact impl_GoodTakes.mono _ _ _
  | exact impl_IsTaking.mono _ _ _
  | exact impl_LeastTakes.mono _ _ _
  | exact impl_PlayTakes.mono _ _ _ _
  | exact impl_TakeLength.mono _ _ _
  | exact impl_TakeLine.mono _ _ _
  | exact impl_TakeWinner.mono _ _ _
  | exact laws_nHas.mono _ _ _
  | exact laws_nLadder.mono _ _ _ _ _
  | exact laws_nSame.mono _ _ _
  | exact spec_CountHomeSets.mono _ _ _
  | exact spec_DrawPlayTakes.mono _ _
  | exact spec_DrawTakeLine.mono _ _
  | exact spec_GoodTakes.mono _ _ _
  | exact spec_IsTaking.mono _ _ _
  | exact spec_LeastTakes.mono _ _ _
  | exact spec_PlayTakes.mono _ _ _ _
  | exact spec_TakeLength.mono _ _ _
  | exact spec_TakeLine.mono _ _ _
  | exact spec_TakeWinner.mono _ _ _
  | exact LeO.none _
  | refine LeO.ite ?_ ?_
  | refine LeO.bind ?_ (fun _ => ?_)
def laws_FnTakesPlayed.T16 : Bool × List (List Nat × List Nat) := (true, [([], []), ([], []), ([0, 1], [0, 1]), ([2], [2]), ([3], [3]), ([3], [3]), ([4, 5, 3, 3], [3, 4, 5]), ([6, 3], [3, 6]), ([3, 7], [3, 7]), ([8, 6], [8]), ([9], [9]), ([9], [9]), ([10, 11, 9], [9, 10, 11]), ([9, 12], [9, 12]), ([13, 9], [13]), ([14], [14]), ([14], [14]), ([15, 16, 14], [14, 15, 16]), ([14, 17], [14, 17]), ([18, 14], [18]), ([19], [19]), ([19], [19]), ([20, 21, 19], [19, 20, 21]), ([19, 22], [19, 22]), ([23, 19], [23]), ([24], [24]), ([24], [24]), ([25, 26, 24, 24], [24, 25, 26]), ([27, 24], [24, 27]), ([24, 28], [24, 28]), ([29, 27], [29]), ([30], [30]), ([30], [30]), ([31, 32, 30], [30, 31, 32]), ([30, 33], [30, 33]), ([34, 30], [34]), ([35], [35]), ([35], [35]), ([36, 37, 35], [35, 36, 37]), ([35, 38], [35, 38]), ([39, 35], [39]), ([40], [40]), ([40], [40]), ([41, 42, 40], [40, 41, 42]), ([40, 43], [40, 43]), ([44, 40], [44]), ([45], [45]), ([45], [45]), ([46, 47, 45], [45, 46, 47]), ([45, 48], [45, 48]), ([49, 45], [49]), ([50], [50]), ([50], [50]), ([51, 52, 50], [50, 51, 52]), ([50, 53], [50, 53]), ([54, 50], [54]), ([55], [55]), ([55], [55]), ([56, 57, 55], [55, 56, 57]), ([55, 58], [55, 58]), ([59, 55], [59]), ([60], [60]), ([60], [60]), ([62, 60, 60], [60, 62]), ([61, 63, 60], [60, 61, 63]), ([60, 64], [60, 64]), ([65, 63], [65]), ([66], [66]), ([67, 66, 66], [66, 67]), ([66], [66]), ([69, 68, 66], [66, 69]), ([68, 70, 66], [66, 68, 70]), ([66, 71], [66, 71]), ([72, 70], [72]), ([73], [73]), ([73], [73]), ([74, 75, 73], [73, 74, 75]), ([73, 76], [73, 76]), ([77, 73], [77]), ([78], [78]), ([78], [78]), ([79, 80, 78], [78, 79, 80]), ([78, 81], [78, 81]), ([82, 78], [82]), ([83], [83]), ([83], [83]), ([84, 85, 83], [83, 84, 85]), ([83, 86], [83, 86]), ([87, 83], [87]), ([88], [88]), ([88], [88]), ([89, 90, 88], [88, 89, 90]), ([88, 91], [88, 91]), ([92, 88], [92]), ([93], [93]), ([93], [93]), ([94, 95, 93], [93, 94, 95]), ([93, 96], [93, 96])])
def laws_FnTakesPlayed.B16 : List Nat := [0, 0, 3, 7, 15, 15, 63, 127, 255, 511, 1023, 1023, 4095, 8191, 16383, 32767, 32767, 131071, 262143, 524287, 1048575, 1048575, 4194303, 8388607, 16777215, 33554431, 33554431, 134217727, 268435455, 536870911, 1073741823, 2147483647, 2147483647, 8589934591, 17179869183, 34359738367, 68719476735, 68719476735, 274877906943, 549755813887, 1099511627775, 2199023255551, 2199023255551, 8796093022207, 17592186044415, 35184372088831, 70368744177663, 70368744177663, 281474976710655, 562949953421311, 1125899906842623, 2251799813685247, 2251799813685247, 9007199254740991, 18014398509481983, 36028797018963967, 72057594037927935, 72057594037927935, 288230376151711743, 576460752303423487, 1152921504606846975, 2305843009213693951, 2305843009213693951, 6917529027641081855, 18446744073709551615, 36893488147419103231, 73786976294838206463, 147573952589676412927, 295147905179352825855, 147573952589676412927, 1180591620717411303423, 2361183241434822606847, 4722366482869645213695, 9444732965739290427391, 18889465931478580854783, 18889465931478580854783, 75557863725914323419135, 151115727451828646838271, 302231454903657293676543, 604462909807314587353087, 604462909807314587353087, 2417851639229258349412351, 4835703278458516698824703, 9671406556917033397649407, 19342813113834066795298815, 19342813113834066795298815, 77371252455336267181195263, 154742504910672534362390527, 309485009821345068724781055, 618970019642690137449562111, 618970019642690137449562111, 2475880078570760549798248447, 4951760157141521099596496895, 9903520314283042199192993791, 19807040628566084398385987583, 19807040628566084398385987583, 79228162514264337593543950335, 158456325028528675187087900671]
theorem laws_FnTakesPlayed.tab16 : rtab .any (opsOf Try.f5 16) = laws_FnTakesPlayed.T16 := by kernel_rfl
theorem laws_FnTakesPlayed.bits16 : waitsOk laws_FnTakesPlayed.T16.2 laws_FnTakesPlayed.B16 = true := by kernel_rfl
def laws_FnTakesPlayed.T34 : Bool × List (List Nat × List Nat) := (true, [([], []), ([], []), ([1], [1]), ([0, 2], [0, 2]), ([3], [3]), ([4], [4]), ([4], [4]), ([], []), ([7, 5, 3, 0, 1, 2, 3, 4, 5, 7], [5, 7]), ([6, 8, 0, 1, 2, 3, 4, 5, 6, 7, 8], [6])])
def laws_FnTakesPlayed.B34 : List Nat := [0, 0, 2, 7, 15, 31, 31, 0, 191, 511]
theorem laws_FnTakesPlayed.tab34 : rtab .any (opsOf Try.f5 34) = laws_FnTakesPlayed.T34 := by kernel_rfl
theorem laws_FnTakesPlayed.bits34 : waitsOk laws_FnTakesPlayed.T34.2 laws_FnTakesPlayed.B34 = true := by kernel_rfl
set_option maxHeartbeats 8000000 in
set_option maxRecDepth 100000 in
theorem laws_FnTakesPlayed.calls (k : Nat) (A0 : Option Addr) (c0 : Nat) (l0 : List Int) (A1 : Option Addr) (c1 : Nat) (l1 : List Int) (r : Bool) (w : World) (hr0 : Kd.C (Kd.int .u8) w A0 l0.length l0) (hc0 : l0.length ≤ c0) (hr1 : Kd.C (Kd.int .u8) w A1 l1.length l1) (hc1 : l1.length ≤ c1) (h : laws_FnTakesPlayed.f k l0 l1 = some r) :
 Calls Try.prog 5 #[.slice A0 l0.length c0, .slice A1 l1.length c1] w fun e w' => e = .returned (.bool r) ∧ Below w.heap.size w w' := by
 have hu26 := Try.underlying26
 have HR0 := Aside0.mk hr0
 have HC0 := Aside0.mk hc0
 clear hr0 hc0
 have HR1 := Aside0.mk hr1
 have HC1 := Aside0.mk hc1
 clear hr1 hc1
 have HB := Aside0.mk (Below.refl w.heap.size w)
 have H : ((laws_big.f l0 l1).bind fun t1285 => (if t1285 = true then (some true) else ((spec_DrawTakeLine.f k l0).bind fun bt1286 => ((impl_TakeLine.f k bt1286.1 bt1286.2).bind fun bt1291 => ((spec_TakeLine.f k bt1286.1 bt1286.2).bind fun bt1295 => ((impl_TakeWinner.f k bt1286.1 bt1286.2).bind fun bt1299 => ((spec_TakeWinner.f k bt1286.1 bt1286.2).bind fun bt1301 => ((impl_GoodTakes.f k bt1286.1 bt1286.2).bind fun bt1303 => ((spec_GoodTakes.f k bt1286.1 bt1286.2).bind fun bt1307 => ((impl_TakeLength.f k bt1286.1 bt1286.2).bind fun bt1311 => ((spec_TakeLength.f k bt1286.1 bt1286.2).bind fun bt1313 => ((impl_CountHomeSets.f k bt1286.1 bt1286.2).bind fun bt1315 => ((spec_CountHomeSets.f k bt1286.1 bt1286.2).bind fun bt1317 => ((impl_LeastTakes.f k bt1286.1 bt1286.2).bind fun bt1319 => ((spec_LeastTakes.f k bt1286.1 bt1286.2).bind fun bt1321 => (if (bt1291.2 != bt1295.2) = true then (none) else ((laws_nSame.f k bt1291.1 bt1295.1).bind fun t1323 => (if t1323 = true then (if (bt1299.2 != bt1301.2) = true then (none) else (if (bt1299.1 != bt1301.1) = true then (none) else (if (bt1303.2 != bt1307.2) = true then (none) else ((laws_nSame.f k bt1303.1 bt1307.1).bind fun t1324 => (if t1324 = true then (if (bt1311.2 != bt1313.2) = true then (none) else (if bt1311.1 = bt1313.1 then (if (bt1315.2 != bt1317.2) = true then (none) else (if bt1315.1 = bt1317.1 then (if (bt1319.2 != bt1321.2) = true then (none) else (if bt1319.1 = bt1321.1 then ((impl_IsTaking.f k bt1286.1 bt1286.2).bind fun t1325 => (if (bt1291.2 != t1325) = true then (none) else ((impl_IsTaking.f k bt1286.1 bt1286.2).bind fun t1326 => ((spec_IsTaking.f k bt1286.1 bt1286.2).bind fun t1327 => (if (t1326 != t1327) = true then (none) else (if (bt1299.2 != bt1291.2) = true then (none) else (if (bt1303.2 != bt1291.2) = true then (none) else (if (bt1311.2 != bt1291.2) = true then (none) else (if (bt1315.2 != bt1291.2) = true then (none) else (if (bt1319.2 != bt1291.2) = true then (none) else (if bt1291.2 = true then ((impl_PlayTakes.f k bt1286.1 bt1286.2 bt1291.1).bind fun bt1328 => (if (bt1291.1.length : Int) = bt1311.1 then (if (bt1299.1 != ((Int.tmod bt1311.1 2) == 1)) = true then (none) else (if (bt1299.1 != (decide ((bt1303.1.length : Int) > 0))) = true then (none) else (if bt1299.1 = true then (if 0 < (bt1291.1.length : Int) then ((laws_nHas.f k bt1303.1 (rd bt1291.1 0)).bind fun t1335 => (if t1335 = true then (if bt1328.2.2 = true then ((impl_IsTaking.f k bt1328.1 bt1328.2.1).bind fun t1336 => (if t1336 = true then (none) else (if bt1311.1 < bt1319.1 then (none) else (if bt1319.1 < 1 then (none) else (if bt1315.1 < 1 then (none) else (laws_FnTakesPlayed.l0 k l1 bt1291.1 bt1311.1 bt1303.1 (bt1303.1.length : Int) 0 bt1286.1 bt1286.2)))))) else (none)) else (none))) else (none)) else (if bt1328.2.2 = true then ((impl_IsTaking.f k bt1328.1 bt1328.2.1).bind fun t1337 => (if t1337 = true then (none) else (if bt1311.1 < bt1319.1 then (none) else (if bt1319.1 < 1 then (none) else (if bt1315.1 < 1 then (none) else (laws_FnTakesPlayed.l0 k l1 bt1291.1 bt1311.1 bt1303.1 (bt1303.1.length : Int) 0 bt1286.1 bt1286.2)))))) else (none))))) else (none))) else (laws_FnTakesPlayed.j1 k l1)))))))))))) else (none))) else (none))) else (none))) else (none)))))) else (none))))))))))))))))))) = some r := h
 clear h
 replace H := Option.bind_eq_some_iff.mp H
 obtain ⟨t1285, A30, H⟩ := H
 (try dsimp only at H)
 have A3 := Aside0.mk A30
 clear A30
 by_cases c4 : t1285 = true
 ·subst c4
  rw [if_pos rfl] at H
  obtain rfl := Option.some.inj H
  go_enter Try.func5, Try.ntmps5
  go_wp2_with (first | ((with_reducible refine gate_callee (f := 6) rfl ?_); refine gl_ (some 50) rfl rfl Try.func6 (by kernel_rfl) rfl #[.slice A0 l0.length c0, .slice A1 l1.length c1] rfl ?_; (with_reducible refine (laws_big.calls _ _ l0 _ _ l1 true _ ?side1 ?side2 ?side3 ?side4 A3.out).mono ?_); (case side1 => repeat (first | exact HR0.out | (with_reducible refine Kd.C_alloc ?_ _) | (with_reducible refine Kd.C_drewN ?_ _) | (with_reducible refine Kd.C_drew ?_))); (case side2 => exact HC0.out); (case side3 => repeat (first | exact HR1.out | (with_reducible refine Kd.C_alloc ?_ _) | (with_reducible refine Kd.C_drewN ?_ _) | (with_reducible refine Kd.C_drew ?_))); (case side4 => exact HC1.out); rintro e w' ⟨rfl, ⟨nd, rfl⟩⟩; refine ⟨_, rfl, ?_⟩))
  go_ret
  exact ⟨by first | rfl | (simp [errW_none, errW_some] <;> rfl) | (simp [*, errW_none, errW_some] <;> rfl), Bl_ HB⟩
 replace c4 := Bool.eq_false_iff.mpr c4
 subst c4
 rw [if_neg (show ¬ (false = true) by decide)] at H
 replace H := Option.bind_eq_some_iff.mp H
 obtain ⟨⟨t1286, t1287⟩, A50, H⟩ := H
 (try dsimp only at H)
 have A5 := Aside0.mk A50
 clear A50
 replace H := Option.bind_eq_some_iff.mp H
 obtain ⟨⟨t1291, t1294⟩, A60, H⟩ := H
 (try dsimp only at H)
 have A6 := Aside0.mk A60
 clear A60
 replace H := Option.bind_eq_some_iff.mp H
 obtain ⟨⟨t1295, t1298⟩, A70, H⟩ := H
 (try dsimp only at H)
 have A7 := Aside0.mk A70
 clear A70
 replace H := Option.bind_eq_some_iff.mp H
 obtain ⟨⟨t1299, t1300⟩, A80, H⟩ := H
 (try dsimp only at H)
 have A8 := Aside0.mk A80
 clear A80
 replace H := Option.bind_eq_some_iff.mp H
 obtain ⟨⟨t1301, t1302⟩, A90, H⟩ := H
 (try dsimp only at H)
 have A9 := Aside0.mk A90
 clear A90
 replace H := Option.bind_eq_some_iff.mp H
 obtain ⟨⟨t1303, t1306⟩, A100, H⟩ := H
 (try dsimp only at H)
 have A10 := Aside0.mk A100
 clear A100
 replace H := Option.bind_eq_some_iff.mp H
 obtain ⟨⟨t1307, t1310⟩, A110, H⟩ := H
 (try dsimp only at H)
 have A11 := Aside0.mk A110
 clear A110
 replace H := Option.bind_eq_some_iff.mp H
 obtain ⟨⟨t1311, t1312⟩, A120, H⟩ := H
 (try dsimp only at H)
 have A12 := Aside0.mk A120
 clear A120
 replace H := Option.bind_eq_some_iff.mp H
 obtain ⟨⟨t1313, t1314⟩, A130, H⟩ := H
 (try dsimp only at H)
 have A13 := Aside0.mk A130
 clear A130
 replace H := Option.bind_eq_some_iff.mp H
 obtain ⟨⟨t1315, t1316⟩, A140, H⟩ := H
 (try dsimp only at H)
 have A14 := Aside0.mk A140
 clear A140
 replace H := Option.bind_eq_some_iff.mp H
 obtain ⟨⟨t1317, t1318⟩, A150, H⟩ := H
 (try dsimp only at H)
 have A15 := Aside0.mk A150
 clear A150
 replace H := Option.bind_eq_some_iff.mp H
 obtain ⟨⟨t1319, t1320⟩, A160, H⟩ := H
 (try dsimp only at H)
 have A16 := Aside0.mk A160
 clear A160
 replace H := Option.bind_eq_some_iff.mp H
 obtain ⟨⟨t1321, t1322⟩, A170, H⟩ := H
 (try dsimp only at H)
 have A17 := Aside0.mk A170
 clear A170
 by_cases c18 : (t1294 != t1298) = true
 ·rw [if_pos c18] at H
  have c18b0 : (t1294 != t1298) = true := c18
  (try (have c18b1 : decide (t1294 = t1298) = false := by simpa using c18))
  (try (have c18b2 : (t1294 == t1298) = false := by simpa using c18))
  (try (have c18b3 : ¬ (t1294 = t1298) := by simpa using c18))
  clear c18
  exact absurd H (by simp)
 rw [if_neg c18] at H
 have c18b0 : (t1294 != t1298) = false := by simpa using c18
 (try (have c18b1 : decide (t1294 = t1298) = true := by simpa using c18))
 (try (have c18b2 : (t1294 == t1298) = true := by simpa using c18))
 clear c18
 replace H := Option.bind_eq_some_iff.mp H
 obtain ⟨t1323, A190, H⟩ := H
 (try dsimp only at H)
 have A19 := Aside0.mk A190
 clear A190
 by_cases c20 : t1323 = true
 rotate_left
 ·replace c20 := Bool.eq_false_iff.mpr c20
  subst c20
  rw [if_neg (show ¬ (false = true) by decide)] at H
  exact absurd H (by simp)
 subst c20
 rw [if_pos rfl] at H
 by_cases c21 : (t1300 != t1302) = true
 ·rw [if_pos c21] at H
  have c21b0 : (t1300 != t1302) = true := c21
  (try (have c21b1 : decide (t1300 = t1302) = false := by simpa using c21))
  (try (have c21b2 : (t1300 == t1302) = false := by simpa using c21))
  (try (have c21b3 : ¬ (t1300 = t1302) := by simpa using c21))
  clear c21
  exact absurd H (by simp)
 rw [if_neg c21] at H
 have c21b0 : (t1300 != t1302) = false := by simpa using c21
 (try (have c21b1 : decide (t1300 = t1302) = true := by simpa using c21))
 (try (have c21b2 : (t1300 == t1302) = true := by simpa using c21))
 clear c21
 by_cases c22 : (t1299 != t1301) = true
 ·rw [if_pos c22] at H
  have c22b0 : (t1299 != t1301) = true := c22
  (try (have c22b1 : decide (t1299 = t1301) = false := by simpa using c22))
  (try (have c22b2 : (t1299 == t1301) = false := by simpa using c22))
  (try (have c22b3 : ¬ (t1299 = t1301) := by simpa using c22))
  clear c22
  exact absurd H (by simp)
 rw [if_neg c22] at H
 have c22b0 : (t1299 != t1301) = false := by simpa using c22
 (try (have c22b1 : decide (t1299 = t1301) = true := by simpa using c22))
 (try (have c22b2 : (t1299 == t1301) = true := by simpa using c22))
 clear c22
 by_cases c23 : (t1306 != t1310) = true
 ·rw [if_pos c23] at H
  have c23b0 : (t1306 != t1310) = true := c23
  (try (have c23b1 : decide (t1306 = t1310) = false := by simpa using c23))
  (try (have c23b2 : (t1306 == t1310) = false := by simpa using c23))
  (try (have c23b3 : ¬ (t1306 = t1310) := by simpa using c23))
  clear c23
  exact absurd H (by simp)
 rw [if_neg c23] at H
 have c23b0 : (t1306 != t1310) = false := by simpa using c23
 (try (have c23b1 : decide (t1306 = t1310) = true := by simpa using c23))
 (try (have c23b2 : (t1306 == t1310) = true := by simpa using c23))
 clear c23
 replace H := Option.bind_eq_some_iff.mp H
 obtain ⟨t1324, A240, H⟩ := H
 (try dsimp only at H)
 have A24 := Aside0.mk A240
 clear A240
 by_cases c25 : t1324 = true
 rotate_left
 ·replace c25 := Bool.eq_false_iff.mpr c25
  subst c25
  rw [if_neg (show ¬ (false = true) by decide)] at H
  exact absurd H (by simp)
 subst c25
 rw [if_pos rfl] at H
 by_cases c26 : (t1312 != t1314) = true
 ·rw [if_pos c26] at H
  have c26b0 : (t1312 != t1314) = true := c26
  (try (have c26b1 : decide (t1312 = t1314) = false := by simpa using c26))
  (try (have c26b2 : (t1312 == t1314) = false := by simpa using c26))
  (try (have c26b3 : ¬ (t1312 = t1314) := by simpa using c26))
  clear c26
  exact absurd H (by simp)
 rw [if_neg c26] at H
 have c26b0 : (t1312 != t1314) = false := by simpa using c26
 (try (have c26b1 : decide (t1312 = t1314) = true := by simpa using c26))
 (try (have c26b2 : (t1312 == t1314) = true := by simpa using c26))
 clear c26
 by_cases c27 : t1311 = t1313
 rotate_left
 ·rw [if_neg c27] at H
  have c27b0 : (t1311 == t1313) = false := beq_eq_false_iff_ne.mpr c27
  have c27b1 : (t1311 != t1313) = true := bne_iff_ne.mpr c27
  exact absurd H (by simp)
 rw [if_pos c27] at H
 have c27b0 : (t1311 == t1313) = true := beq_iff_eq.mpr c27
 have c27b1 : (t1311 != t1313) = false := bne_eq_false_iff_eq.mpr c27
 clear c27
 by_cases c28 : (t1316 != t1318) = true
 ·rw [if_pos c28] at H
  have c28b0 : (t1316 != t1318) = true := c28
  (try (have c28b1 : decide (t1316 = t1318) = false := by simpa using c28))
  (try (have c28b2 : (t1316 == t1318) = false := by simpa using c28))
  (try (have c28b3 : ¬ (t1316 = t1318) := by simpa using c28))
  clear c28
  exact absurd H (by simp)
 rw [if_neg c28] at H
 have c28b0 : (t1316 != t1318) = false := by simpa using c28
 (try (have c28b1 : decide (t1316 = t1318) = true := by simpa using c28))
 (try (have c28b2 : (t1316 == t1318) = true := by simpa using c28))
 clear c28
 by_cases c29 : t1315 = t1317
 rotate_left
 ·rw [if_neg c29] at H
  have c29b0 : (t1315 == t1317) = false := beq_eq_false_iff_ne.mpr c29
  have c29b1 : (t1315 != t1317) = true := bne_iff_ne.mpr c29
  exact absurd H (by simp)
 rw [if_pos c29] at H
 have c29b0 : (t1315 == t1317) = true := beq_iff_eq.mpr c29
 have c29b1 : (t1315 != t1317) = false := bne_eq_false_iff_eq.mpr c29
 clear c29
 by_cases c30 : (t1320 != t1322) = true
 ·rw [if_pos c30] at H
  have c30b0 : (t1320 != t1322) = true := c30
  (try (have c30b1 : decide (t1320 = t1322) = false := by simpa using c30))
  (try (have c30b2 : (t1320 == t1322) = false := by simpa using c30))
  (try (have c30b3 : ¬ (t1320 = t1322) := by simpa using c30))
  clear c30
  exact absurd H (by simp)
 rw [if_neg c30] at H
 have c30b0 : (t1320 != t1322) = false := by simpa using c30
 (try (have c30b1 : decide (t1320 = t1322) = true := by simpa using c30))
 (try (have c30b2 : (t1320 == t1322) = true := by simpa using c30))
 clear c30
 by_cases c31 : t1319 = t1321
 rotate_left
 ·rw [if_neg c31] at H
  have c31b0 : (t1319 == t1321) = false := beq_eq_false_iff_ne.mpr c31
  have c31b1 : (t1319 != t1321) = true := bne_iff_ne.mpr c31
  exact absurd H (by simp)
 rw [if_pos c31] at H
 have c31b0 : (t1319 == t1321) = true := beq_iff_eq.mpr c31
 have c31b1 : (t1319 != t1321) = false := bne_eq_false_iff_eq.mpr c31
 clear c31
 replace H := Option.bind_eq_some_iff.mp H
 obtain ⟨t1325, A320, H⟩ := H
 (try dsimp only at H)
 have A32 := Aside0.mk A320
 clear A320
 by_cases c33 : (t1294 != t1325) = true
 ·rw [if_pos c33] at H
  have c33b0 : (t1294 != t1325) = true := c33
  (try (have c33b1 : decide (t1294 = t1325) = false := by simpa using c33))
  (try (have c33b2 : (t1294 == t1325) = false := by simpa using c33))
  (try (have c33b3 : ¬ (t1294 = t1325) := by simpa using c33))
  clear c33
  exact absurd H (by simp)
 rw [if_neg c33] at H
 have c33b0 : (t1294 != t1325) = false := by simpa using c33
 (try (have c33b1 : decide (t1294 = t1325) = true := by simpa using c33))
 (try (have c33b2 : (t1294 == t1325) = true := by simpa using c33))
 clear c33
 replace H := Option.bind_eq_some_iff.mp H
 obtain ⟨t1326, A340, H⟩ := H
 (try dsimp only at H)
 have A34 := Aside0.mk A340
 clear A340
 replace H := Option.bind_eq_some_iff.mp H
 obtain ⟨t1327, A350, H⟩ := H
 (try dsimp only at H)
 have A35 := Aside0.mk A350
 clear A350
 by_cases c36 : (t1326 != t1327) = true
 ·rw [if_pos c36] at H
  have c36b0 : (t1326 != t1327) = true := c36
  (try (have c36b1 : decide (t1326 = t1327) = false := by simpa using c36))
  (try (have c36b2 : (t1326 == t1327) = false := by simpa using c36))
  (try (have c36b3 : ¬ (t1326 = t1327) := by simpa using c36))
  clear c36
  exact absurd H (by simp)
 rw [if_neg c36] at H
 have c36b0 : (t1326 != t1327) = false := by simpa using c36
 (try (have c36b1 : decide (t1326 = t1327) = true := by simpa using c36))
 (try (have c36b2 : (t1326 == t1327) = true := by simpa using c36))
 clear c36
 by_cases c37 : (t1300 != t1294) = true
 ·rw [if_pos c37] at H
  have c37b0 : (t1300 != t1294) = true := c37
  (try (have c37b1 : decide (t1300 = t1294) = false := by simpa using c37))
  (try (have c37b2 : (t1300 == t1294) = false := by simpa using c37))
  (try (have c37b3 : ¬ (t1300 = t1294) := by simpa using c37))
  clear c37
  exact absurd H (by simp)
 rw [if_neg c37] at H
 have c37b0 : (t1300 != t1294) = false := by simpa using c37
 (try (have c37b1 : decide (t1300 = t1294) = true := by simpa using c37))
 (try (have c37b2 : (t1300 == t1294) = true := by simpa using c37))
 clear c37
 by_cases c38 : (t1306 != t1294) = true
 ·rw [if_pos c38] at H
  have c38b0 : (t1306 != t1294) = true := c38
  (try (have c38b1 : decide (t1306 = t1294) = false := by simpa using c38))
  (try (have c38b2 : (t1306 == t1294) = false := by simpa using c38))
  (try (have c38b3 : ¬ (t1306 = t1294) := by simpa using c38))
  clear c38
  exact absurd H (by simp)
 rw [if_neg c38] at H
 have c38b0 : (t1306 != t1294) = false := by simpa using c38
 (try (have c38b1 : decide (t1306 = t1294) = true := by simpa using c38))
 (try (have c38b2 : (t1306 == t1294) = true := by simpa using c38))
 clear c38
 by_cases c39 : (t1312 != t1294) = true
 ·rw [if_pos c39] at H
  have c39b0 : (t1312 != t1294) = true := c39
  (try (have c39b1 : decide (t1312 = t1294) = false := by simpa using c39))
  (try (have c39b2 : (t1312 == t1294) = false := by simpa using c39))
  (try (have c39b3 : ¬ (t1312 = t1294) := by simpa using c39))
  clear c39
  exact absurd H (by simp)
 rw [if_neg c39] at H
 have c39b0 : (t1312 != t1294) = false := by simpa using c39
 (try (have c39b1 : decide (t1312 = t1294) = true := by simpa using c39))
 (try (have c39b2 : (t1312 == t1294) = true := by simpa using c39))
 clear c39
 by_cases c40 : (t1316 != t1294) = true
 ·rw [if_pos c40] at H
  have c40b0 : (t1316 != t1294) = true := c40
  (try (have c40b1 : decide (t1316 = t1294) = false := by simpa using c40))
  (try (have c40b2 : (t1316 == t1294) = false := by simpa using c40))
  (try (have c40b3 : ¬ (t1316 = t1294) := by simpa using c40))
  clear c40
  exact absurd H (by simp)
 rw [if_neg c40] at H
 have c40b0 : (t1316 != t1294) = false := by simpa using c40
 (try (have c40b1 : decide (t1316 = t1294) = true := by simpa using c40))
 (try (have c40b2 : (t1316 == t1294) = true := by simpa using c40))
 clear c40
 by_cases c41 : (t1320 != t1294) = true
 ·rw [if_pos c41] at H
  exact absurd H (by simp)
 rw [if_neg c41] at H
 have c41b0 : (t1320 != t1294) = false := by simpa using c41
 (try (have c41b1 : decide (t1320 = t1294) = true := by simpa using c41))
 (try (have c41b2 : (t1320 == t1294) = true := by simpa using c41))
 clear c41
 have HC42 := Aside0.mk H
 clear H
 go_enter Try.func5, Try.ntmps5
 try go_wp2_with (first | ((with_reducible refine gate_callee (f := 6) rfl ?_); refine gl_ (some 50) rfl rfl Try.func6 (by kernel_rfl) rfl #[.slice A0 l0.length c0, .slice A1 l1.length c1] rfl ?_; (with_reducible refine (laws_big.calls _ _ l0 _ _ l1 false _ ?side1 ?side2 ?side3 ?side4 A3.out).mono ?_); (case side1 => repeat (first | exact HR0.out | (with_reducible refine Kd.C_alloc ?_ _) | (with_reducible refine Kd.C_drewN ?_ _) | (with_reducible refine Kd.C_drew ?_))); (case side2 => exact HC0.out); (case side3 => repeat (first | exact HR1.out | (with_reducible refine Kd.C_alloc ?_ _) | (with_reducible refine Kd.C_drewN ?_ _) | (with_reducible refine Kd.C_drew ?_))); (case side4 => exact HC1.out); rintro e w' ⟨rfl, ⟨nd, rfl⟩⟩; refine ⟨_, rfl, ?_⟩) | ((with_reducible refine gate_callee (f := 48) rfl ?_); refine gl_ (some 52) rfl rfl Try.func48 (by kernel_rfl) rfl #[.slice A0 l0.length c0] rfl ?_; (with_reducible refine (spec_DrawTakeLine.calls k _ _ l0 t1286 t1287 _ ?side1 ?side2 A5.out).mono ?_); (case side1 => repeat (first | exact HR0.out | (with_reducible refine Kd.C_alloc ?_ _) | (with_reducible refine Kd.C_drewN ?_ _) | (with_reducible refine Kd.C_drew ?_))); (case side2 => exact HC0.out); rintro e w43 ⟨v1288, rfl, ho0, hb⟩; refine ⟨_, rfl, ?_⟩; have HO1289 := Aside0.mk (Kd.R_lower ho0 (below_size (Bl_ HB))); replace HB := Aside0.mk (below_step (Bl_ HB) hb); (try clear hb); (try clear hb2); (try clear hk); (try clear hi); (try clear ho0)) | ((with_reducible refine gate_dst (N := 5) rfl ?_); (try (refine gate_guard (by rfl) ?_; dsimp only)); refine box_event ?hg (N := 5) ?hd (cs := #[.int .i64 0, .slice none 0 0]) (t := 26) ?hr ?_; (case hd => rfl); (case hg => rfl); (case hr => first | (go_simp; done) | (go_simp; rfl)); intro gb1290 hg w44 hbox hb; replace HO1289 := Aside0.mk (Kd.R_below (Rl_ HO1289.out) hb); have BK1290 := Aside0.mk (hbox); have GW1290 := Aside0.mk ((by rw [hg]; exact (below_size (Bl_ HB)) : w.heap.size ≤ gb1290)); have GE1290 := Aside0.mk ((by rw [hg]; exact (below_size (Bl_ HB)) : w.heap.size ≤ gb1290)); replace HB := Aside0.mk (below_step (Bl_ HB) hb); clear hb hbox hg; have hcz45_0 : w44.cell? ⟨gb1290, 0, none⟩ = some (.int .i64 0) := (blk_cell BK1290.out 0).trans rfl; have hcz45_1 : w44.cell? ⟨gb1290, 1, none⟩ = some (.slice none 0 0) := (blk_cell BK1290.out 1).trans rfl; have hfz45_0 := blk_frozen BK1290.out 0; have hfz45_1 := blk_frozen BK1290.out 1; obtain ⟨Ao46, co46, eo46⟩ := Kd.R_slice HO1289.out; subst eo46) | ((with_reducible refine gate_callee (f := 49) rfl ?_); refine gl_ (some 55) rfl rfl Try.func49 (by kernel_rfl) rfl #[.agg #[.int .i64 t1286, .slice Ao46 t1287.length co46]] rfl ?_; (with_reducible refine (impl_TakeLine.calls k t1286 _ _ t1287 t1291 t1294 _ ?side1 ?side2 A6.out).mono ?_); (case side1 => refine (Kd.R_reads' (e := 3) (base := w.heap.size) (ok := fun k_ => True) (n := t1287.length) (c := co46) ?_).2.2; exact (Rl_ (Rf2_ HO1289.out BK1290.out (by decide) (.int .i64 t1286) (.slice Ao46 t1287.length co46)))); (case side2 => exact (Kd.R_reads' HO1289.out).2.1); rintro e w47 ⟨v1292, rfl, ho0, hb⟩; refine ⟨_, rfl, ?_⟩; have HO1293 := Aside0.mk (Kd.R_lower (Kd.R_new' ho0 (Kd.R_lt (Rl_ (Rf2_ HO1289.out BK1290.out (by decide) (.int .i64 t1286) (.slice Ao46 t1287.length co46))))) (below_size (Bl_ HB))); replace HO1289 := Aside0.mk (Kd.R_elder' (Rl_ (Rf2_ HO1289.out BK1290.out (by decide) (.int .i64 t1286) (.slice Ao46 t1287.length co46))) (Kd.R_base ho0) hb); replace BK1290 := Aside0.mk (blk_below (g := gb1290) (o := .cells #[.int .i64 t1286, .slice Ao46 t1287.length co46] 26 (0, 0)) (by (with_reducible repeat (first | refine blk_drewN ?_ _ | refine blk_drew ?_ | refine blk_alloc ?_ _)); refine blk_put (cs := #[.int .i64 t1286, .slice none 0 0]) ?_ 1 _ rfl; (with_reducible repeat (first | refine blk_drewN ?_ _ | refine blk_drew ?_ | refine blk_alloc ?_ _)); refine blk_put (cs := #[.int .i64 0, .slice none 0 0]) ?_ 0 _ rfl; (with_reducible repeat (first | refine blk_drewN ?_ _ | refine blk_drew ?_ | refine blk_alloc ?_ _)); exact BK1290.out) hb); replace HB := Aside0.mk (below_step (Bl_ HB) hb); (try clear hb); (try clear hb2); (try clear hk); (try clear hi); (try clear ho0); have hcz48_0 : w47.cell? ⟨gb1290, 0, none⟩ = some (.int .i64 t1286) := (blk_cell BK1290.out 0).trans rfl; have hcz48_1 : w47.cell? ⟨gb1290, 1, none⟩ = some (.slice Ao46 t1287.length co46) := (blk_cell BK1290.out 1).trans rfl; have hfz48_0 := blk_frozen BK1290.out 0; have hfz48_1 := blk_frozen BK1290.out 1) | ((with_reducible refine gate_callee (f := 50) rfl ?_); refine gl_ (some 60) rfl rfl Try.func50 (by kernel_rfl) rfl #[.agg #[.int .i64 t1286, .slice Ao46 t1287.length co46]] rfl ?_; (with_reducible refine (spec_TakeLine.calls k t1286 _ _ t1287 t1295 t1298 _ ?side1 ?side2 A7.out).mono ?_); (case side1 => exact Cl_ (Kd.R_reads' HO1289.out).2.2); (case side2 => exact (Kd.R_reads' HO1289.out).2.1); rintro e w49 ⟨v1296, rfl, ho0, hb⟩; refine ⟨_, rfl, ?_⟩; have HO1297 := Aside0.mk (Kd.R_lower (Kd.R_new' (Kd.R_new' ho0 (Kd.R_lt (Rl_ HO1289.out))) (Kd.R_lt (Rl_ HO1293.out))) (below_size (Bl_ HB))); replace HO1289 := Aside0.mk (Kd.R_elder' (Rl_ HO1289.out) (Kd.R_base ho0) hb); replace HO1293 := Aside0.mk (Kd.R_elder' (Rl_ HO1293.out) (Kd.R_base ho0) hb); replace BK1290 := blkB_ BK1290 hb; replace HB := Aside0.mk (below_step (Bl_ HB) hb); (try clear hb); (try clear hb2); (try clear hk); (try clear hi); (try clear ho0); have hcz50_0 : w49.cell? ⟨gb1290, 0, none⟩ = some (.int .i64 t1286) := (blk_cell BK1290.out 0).trans rfl; have hcz50_1 : w49.cell? ⟨gb1290, 1, none⟩ = some (.slice Ao46 t1287.length co46) := (blk_cell BK1290.out 1).trans rfl; have hfz50_0 := blk_frozen BK1290.out 0; have hfz50_1 := blk_frozen BK1290.out 1) | ((with_reducible refine gate_callee (f := 51) rfl ?_); refine gl_ (some 65) rfl rfl Try.func51 (by kernel_rfl) rfl #[.agg #[.int .i64 t1286, .slice Ao46 t1287.length co46]] rfl ?_; (with_reducible refine (impl_TakeWinner.calls k t1286 _ _ t1287 t1299 t1300 _ ?side1 ?side2 A8.out).mono ?_); (case side1 => exact Cl_ (Kd.R_reads' HO1289.out).2.2); (case side2 => exact (Kd.R_reads' HO1289.out).2.1); rintro e w51 ⟨rfl, hb⟩; refine ⟨_, rfl, ?_⟩; replace HO1289 := Aside0.mk (Kd.R_below (Rl_ HO1289.out) hb); replace HO1293 := Aside0.mk (Kd.R_below (Rl_ HO1293.out) hb); replace HO1297 := Aside0.mk (Kd.R_below (Rl_ HO1297.out) hb); replace BK1290 := blkB_ BK1290 hb; replace HB := Aside0.mk (below_step (Bl_ HB) hb); (try clear hb); (try clear hb2); (try clear hk); (try clear hi); have hcz52_0 : w51.cell? ⟨gb1290, 0, none⟩ = some (.int .i64 t1286) := (blk_cell BK1290.out 0).trans rfl; have hcz52_1 : w51.cell? ⟨gb1290, 1, none⟩ = some (.slice Ao46 t1287.length co46) := (blk_cell BK1290.out 1).trans rfl; have hfz52_0 := blk_frozen BK1290.out 0; have hfz52_1 := blk_frozen BK1290.out 1) | ((with_reducible refine gate_callee (f := 52) rfl ?_); refine gl_ (some 70) rfl rfl Try.func52 (by kernel_rfl) rfl #[.agg #[.int .i64 t1286, .slice Ao46 t1287.length co46]] rfl ?_; (with_reducible refine (spec_TakeWinner.calls k t1286 _ _ t1287 t1301 t1302 _ ?side1 ?side2 A9.out).mono ?_); (case side1 => exact Cl_ (Kd.R_reads' HO1289.out).2.2); (case side2 => exact (Kd.R_reads' HO1289.out).2.1); rintro e w53 ⟨rfl, hb⟩; refine ⟨_, rfl, ?_⟩; replace HO1289 := Aside0.mk (Kd.R_below (Rl_ HO1289.out) hb); replace HO1293 := Aside0.mk (Kd.R_below (Rl_ HO1293.out) hb); replace HO1297 := Aside0.mk (Kd.R_below (Rl_ HO1297.out) hb); replace BK1290 := blkB_ BK1290 hb; replace HB := Aside0.mk (below_step (Bl_ HB) hb); (try clear hb); (try clear hb2); (try clear hk); (try clear hi); have hcz54_0 : w53.cell? ⟨gb1290, 0, none⟩ = some (.int .i64 t1286) := (blk_cell BK1290.out 0).trans rfl; have hcz54_1 : w53.cell? ⟨gb1290, 1, none⟩ = some (.slice Ao46 t1287.length co46) := (blk_cell BK1290.out 1).trans rfl; have hfz54_0 := blk_frozen BK1290.out 0; have hfz54_1 := blk_frozen BK1290.out 1) | ((with_reducible refine gate_callee (f := 53) rfl ?_); refine gl_ (some 75) rfl rfl Try.func53 (by kernel_rfl) rfl #[.agg #[.int .i64 t1286, .slice Ao46 t1287.length co46]] rfl ?_; (with_reducible refine (impl_GoodTakes.calls k t1286 _ _ t1287 t1303 t1306 _ ?side1 ?side2 A10.out).mono ?_); (case side1 => exact Cl_ (Kd.R_reads' HO1289.out).2.2); (case side2 => exact (Kd.R_reads' HO1289.out).2.1); rintro e w55 ⟨v1304, rfl, ho0, hb⟩; refine ⟨_, rfl, ?_⟩; have HO1305 := Aside0.mk (Kd.R_lower (Kd.R_new' (Kd.R_new' (Kd.R_new' ho0 (Kd.R_lt (Rl_ HO1289.out))) (Kd.R_lt (Rl_ HO1293.out))) (Kd.R_lt (Rl_ HO1297.out))) (below_size (Bl_ HB))); replace HO1289 := Aside0.mk (Kd.R_elder' (Rl_ HO1289.out) (Kd.R_base ho0) hb); replace HO1293 := Aside0.mk (Kd.R_elder' (Rl_ HO1293.out) (Kd.R_base ho0) hb); replace HO1297 := Aside0.mk (Kd.R_elder' (Rl_ HO1297.out) (Kd.R_base ho0) hb); replace BK1290 := blkB_ BK1290 hb; replace HB := Aside0.mk (below_step (Bl_ HB) hb); (try clear hb); (try clear hb2); (try clear hk); (try clear hi); (try clear ho0); have hcz56_0 : w55.cell? ⟨gb1290, 0, none⟩ = some (.int .i64 t1286) := (blk_cell BK1290.out 0).trans rfl; have hcz56_1 : w55.cell? ⟨gb1290, 1, none⟩ = some (.slice Ao46 t1287.length co46) := (blk_cell BK1290.out 1).trans rfl; have hfz56_0 := blk_frozen BK1290.out 0; have hfz56_1 := blk_frozen BK1290.out 1) | ((with_reducible refine gate_callee (f := 54) rfl ?_); refine gl_ (some 80) rfl rfl Try.func54 (by kernel_rfl) rfl #[.agg #[.int .i64 t1286, .slice Ao46 t1287.length co46]] rfl ?_; (with_reducible refine (spec_GoodTakes.calls k t1286 _ _ t1287 t1307 t1310 _ ?side1 ?side2 A11.out).mono ?_); (case side1 => exact Cl_ (Kd.R_reads' HO1289.out).2.2); (case side2 => exact (Kd.R_reads' HO1289.out).2.1); rintro e w57 ⟨v1308, rfl, ho0, hb⟩; refine ⟨_, rfl, ?_⟩; have HO1309 := Aside0.mk (Kd.R_lower (Kd.R_new' (Kd.R_new' (Kd.R_new' (Kd.R_new' ho0 (Kd.R_lt (Rl_ HO1289.out))) (Kd.R_lt (Rl_ HO1293.out))) (Kd.R_lt (Rl_ HO1297.out))) (Kd.R_lt (Rl_ HO1305.out))) (below_size (Bl_ HB))); replace HO1289 := Aside0.mk (Kd.R_elder' (Rl_ HO1289.out) (Kd.R_base ho0) hb); replace HO1293 := Aside0.mk (Kd.R_elder' (Rl_ HO1293.out) (Kd.R_base ho0) hb); replace HO1297 := Aside0.mk (Kd.R_elder' (Rl_ HO1297.out) (Kd.R_base ho0) hb); replace HO1305 := Aside0.mk (Kd.R_elder' (Rl_ HO1305.out) (Kd.R_base ho0) hb); replace BK1290 := blkB_ BK1290 hb; replace HB := Aside0.mk (below_step (Bl_ HB) hb); (try clear hb); (try clear hb2); (try clear hk); (try clear hi); (try clear ho0); have hcz58_0 : w57.cell? ⟨gb1290, 0, none⟩ = some (.int .i64 t1286) := (blk_cell BK1290.out 0).trans rfl; have hcz58_1 : w57.cell? ⟨gb1290, 1, none⟩ = some (.slice Ao46 t1287.length co46) := (blk_cell BK1290.out 1).trans rfl; have hfz58_0 := blk_frozen BK1290.out 0; have hfz58_1 := blk_frozen BK1290.out 1) | ((with_reducible refine gate_callee (f := 55) rfl ?_); refine gl_ (some 85) rfl rfl Try.func55 (by kernel_rfl) rfl #[.agg #[.int .i64 t1286, .slice Ao46 t1287.length co46]] rfl ?_; (with_reducible refine (impl_TakeLength.calls k t1286 _ _ t1287 t1311 t1312 _ ?side1 ?side2 A12.out).mono ?_); (case side1 => exact Cl_ (Kd.R_reads' HO1289.out).2.2); (case side2 => exact (Kd.R_reads' HO1289.out).2.1); rintro e w59 ⟨rfl, hb⟩; refine ⟨_, rfl, ?_⟩; replace HO1289 := Aside0.mk (Kd.R_below (Rl_ HO1289.out) hb); replace HO1293 := Aside0.mk (Kd.R_below (Rl_ HO1293.out) hb); replace HO1297 := Aside0.mk (Kd.R_below (Rl_ HO1297.out) hb); replace HO1305 := Aside0.mk (Kd.R_below (Rl_ HO1305.out) hb); replace HO1309 := Aside0.mk (Kd.R_below (Rl_ HO1309.out) hb); replace BK1290 := blkB_ BK1290 hb; replace HB := Aside0.mk (below_step (Bl_ HB) hb); (try clear hb); (try clear hb2); (try clear hk); (try clear hi); have hcz60_0 : w59.cell? ⟨gb1290, 0, none⟩ = some (.int .i64 t1286) := (blk_cell BK1290.out 0).trans rfl; have hcz60_1 : w59.cell? ⟨gb1290, 1, none⟩ = some (.slice Ao46 t1287.length co46) := (blk_cell BK1290.out 1).trans rfl; have hfz60_0 := blk_frozen BK1290.out 0; have hfz60_1 := blk_frozen BK1290.out 1) | ((with_reducible refine gate_callee (f := 56) rfl ?_); refine gl_ (some 90) rfl rfl Try.func56 (by kernel_rfl) rfl #[.agg #[.int .i64 t1286, .slice Ao46 t1287.length co46]] rfl ?_; (with_reducible refine (spec_TakeLength.calls k t1286 _ _ t1287 t1313 t1314 _ ?side1 ?side2 A13.out).mono ?_); (case side1 => exact Cl_ (Kd.R_reads' HO1289.out).2.2); (case side2 => exact (Kd.R_reads' HO1289.out).2.1); rintro e w61 ⟨rfl, hb⟩; refine ⟨_, rfl, ?_⟩; replace HO1289 := Aside0.mk (Kd.R_below (Rl_ HO1289.out) hb); replace HO1293 := Aside0.mk (Kd.R_below (Rl_ HO1293.out) hb); replace HO1297 := Aside0.mk (Kd.R_below (Rl_ HO1297.out) hb); replace HO1305 := Aside0.mk (Kd.R_below (Rl_ HO1305.out) hb); replace HO1309 := Aside0.mk (Kd.R_below (Rl_ HO1309.out) hb); replace BK1290 := blkB_ BK1290 hb; replace HB := Aside0.mk (below_step (Bl_ HB) hb); (try clear hb); (try clear hb2); (try clear hk); (try clear hi); have hcz62_0 : w61.cell? ⟨gb1290, 0, none⟩ = some (.int .i64 t1286) := (blk_cell BK1290.out 0).trans rfl; have hcz62_1 : w61.cell? ⟨gb1290, 1, none⟩ = some (.slice Ao46 t1287.length co46) := (blk_cell BK1290.out 1).trans rfl; have hfz62_0 := blk_frozen BK1290.out 0; have hfz62_1 := blk_frozen BK1290.out 1) | ((with_reducible refine gate_callee (f := 57) rfl ?_); refine gl_ (some 95) rfl rfl Try.func57 (by kernel_rfl) rfl #[.agg #[.int .i64 t1286, .slice Ao46 t1287.length co46]] rfl ?_; (with_reducible refine (impl_CountHomeSets.calls k t1286 _ _ t1287 t1315 t1316 _ ?side1 ?side2 A14.out).mono ?_); (case side1 => exact Cl_ (Kd.R_reads' HO1289.out).2.2); (case side2 => exact (Kd.R_reads' HO1289.out).2.1); rintro e w63 ⟨rfl, hb⟩; refine ⟨_, rfl, ?_⟩; replace HO1289 := Aside0.mk (Kd.R_below (Rl_ HO1289.out) hb); replace HO1293 := Aside0.mk (Kd.R_below (Rl_ HO1293.out) hb); replace HO1297 := Aside0.mk (Kd.R_below (Rl_ HO1297.out) hb); replace HO1305 := Aside0.mk (Kd.R_below (Rl_ HO1305.out) hb); replace HO1309 := Aside0.mk (Kd.R_below (Rl_ HO1309.out) hb); replace BK1290 := blkB_ BK1290 hb; replace HB := Aside0.mk (below_step (Bl_ HB) hb); (try clear hb); (try clear hb2); (try clear hk); (try clear hi); have hcz64_0 : w63.cell? ⟨gb1290, 0, none⟩ = some (.int .i64 t1286) := (blk_cell BK1290.out 0).trans rfl; have hcz64_1 : w63.cell? ⟨gb1290, 1, none⟩ = some (.slice Ao46 t1287.length co46) := (blk_cell BK1290.out 1).trans rfl; have hfz64_0 := blk_frozen BK1290.out 0; have hfz64_1 := blk_frozen BK1290.out 1) | ((with_reducible refine gate_callee (f := 58) rfl ?_); refine gl_ (some 100) rfl rfl Try.func58 (by kernel_rfl) rfl #[.agg #[.int .i64 t1286, .slice Ao46 t1287.length co46]] rfl ?_; (with_reducible refine (spec_CountHomeSets.calls k t1286 _ _ t1287 t1317 t1318 _ ?side1 ?side2 A15.out).mono ?_); (case side1 => exact Cl_ (Kd.R_reads' HO1289.out).2.2); (case side2 => exact (Kd.R_reads' HO1289.out).2.1); rintro e w65 ⟨rfl, hb⟩; refine ⟨_, rfl, ?_⟩; replace HO1289 := Aside0.mk (Kd.R_below (Rl_ HO1289.out) hb); replace HO1293 := Aside0.mk (Kd.R_below (Rl_ HO1293.out) hb); replace HO1297 := Aside0.mk (Kd.R_below (Rl_ HO1297.out) hb); replace HO1305 := Aside0.mk (Kd.R_below (Rl_ HO1305.out) hb); replace HO1309 := Aside0.mk (Kd.R_below (Rl_ HO1309.out) hb); replace BK1290 := blkB_ BK1290 hb; replace HB := Aside0.mk (below_step (Bl_ HB) hb); (try clear hb); (try clear hb2); (try clear hk); (try clear hi); have hcz66_0 : w65.cell? ⟨gb1290, 0, none⟩ = some (.int .i64 t1286) := (blk_cell BK1290.out 0).trans rfl; have hcz66_1 : w65.cell? ⟨gb1290, 1, none⟩ = some (.slice Ao46 t1287.length co46) := (blk_cell BK1290.out 1).trans rfl; have hfz66_0 := blk_frozen BK1290.out 0; have hfz66_1 := blk_frozen BK1290.out 1) | ((with_reducible refine gate_callee (f := 59) rfl ?_); refine gl_ (some 105) rfl rfl Try.func59 (by kernel_rfl) rfl #[.agg #[.int .i64 t1286, .slice Ao46 t1287.length co46]] rfl ?_; (with_reducible refine (impl_LeastTakes.calls k t1286 _ _ t1287 t1319 t1320 _ ?side1 ?side2 A16.out).mono ?_); (case side1 => exact Cl_ (Kd.R_reads' HO1289.out).2.2); (case side2 => exact (Kd.R_reads' HO1289.out).2.1); rintro e w67 ⟨rfl, hb⟩; refine ⟨_, rfl, ?_⟩; replace HO1289 := Aside0.mk (Kd.R_below (Rl_ HO1289.out) hb); replace HO1293 := Aside0.mk (Kd.R_below (Rl_ HO1293.out) hb); replace HO1297 := Aside0.mk (Kd.R_below (Rl_ HO1297.out) hb); replace HO1305 := Aside0.mk (Kd.R_below (Rl_ HO1305.out) hb); replace HO1309 := Aside0.mk (Kd.R_below (Rl_ HO1309.out) hb); replace BK1290 := blkB_ BK1290 hb; replace HB := Aside0.mk (below_step (Bl_ HB) hb); (try clear hb); (try clear hb2); (try clear hk); (try clear hi); have hcz68_0 : w67.cell? ⟨gb1290, 0, none⟩ = some (.int .i64 t1286) := (blk_cell BK1290.out 0).trans rfl; have hcz68_1 : w67.cell? ⟨gb1290, 1, none⟩ = some (.slice Ao46 t1287.length co46) := (blk_cell BK1290.out 1).trans rfl; have hfz68_0 := blk_frozen BK1290.out 0; have hfz68_1 := blk_frozen BK1290.out 1) | ((with_reducible refine gate_callee (f := 60) rfl ?_); refine gl_ (some 110) rfl rfl Try.func60 (by kernel_rfl) rfl #[.agg #[.int .i64 t1286, .slice Ao46 t1287.length co46]] rfl ?_; (with_reducible refine (spec_LeastTakes.calls k t1286 _ _ t1287 t1321 t1322 _ ?side1 ?side2 A17.out).mono ?_); (case side1 => exact Cl_ (Kd.R_reads' HO1289.out).2.2); (case side2 => exact (Kd.R_reads' HO1289.out).2.1); rintro e w69 ⟨rfl, hb⟩; refine ⟨_, rfl, ?_⟩; replace HO1289 := Aside0.mk (Kd.R_below (Rl_ HO1289.out) hb); replace HO1293 := Aside0.mk (Kd.R_below (Rl_ HO1293.out) hb); replace HO1297 := Aside0.mk (Kd.R_below (Rl_ HO1297.out) hb); replace HO1305 := Aside0.mk (Kd.R_below (Rl_ HO1305.out) hb); replace HO1309 := Aside0.mk (Kd.R_below (Rl_ HO1309.out) hb); replace BK1290 := blkB_ BK1290 hb; replace HB := Aside0.mk (below_step (Bl_ HB) hb); (try clear hb); (try clear hb2); (try clear hk); (try clear hi)))
 replace HO1289 := Aside0.mk (Kd.R_drew HO1289.out)
 replace HO1293 := Aside0.mk (Kd.R_drew HO1293.out)
 replace HO1297 := Aside0.mk (Kd.R_drew HO1297.out)
 replace HO1305 := Aside0.mk (Kd.R_drew HO1305.out)
 replace HO1309 := Aside0.mk (Kd.R_drew HO1309.out)
 replace BK1290 := Aside0.mk (blk_drew BK1290.out)
 replace HB := Aside0.mk (below_drew1 HB.out)
 obtain ⟨Ao71, co71, eo71⟩ := Kd.R_slice HO1293.out
 (first | subst eo71 | (injection eo71 with f1_ f2_ f3_; have f4_ := f1_.symm; have f5_ := f3_.symm; clear f1_ f2_ f3_; subst f4_; subst f5_))
 obtain ⟨Ao72, co72, eo72⟩ := Kd.R_slice HO1297.out
 (first | subst eo72 | (injection eo72 with f1_ f2_ f3_; have f4_ := f1_.symm; have f5_ := f3_.symm; clear f1_ f2_ f3_; subst f4_; subst f5_))
 refine start_ (n := 98) (S := fun w' => w'.cell? ⟨gb1290, 0, none⟩ = some (.int .i64 t1286) ∧ w'.cell? ⟨gb1290, 1, none⟩ = some (.slice Ao46 t1287.length co46)) (ds := []) (fl_ 98 0) (by kernel_rfl) rfl rfl ⟨(blk_cell BK1290.out 0).trans rfl, (blk_cell BK1290.out 1).trans rfl⟩ (fun hHeld => ?_); refine with_tabW laws_FnTakesPlayed.tab16 laws_FnTakesPlayed.bits16 (fun HT_ HW_ => ?_)
 generalize w69.drew = w70 at HO1289 HO1293 HO1297 HO1305 HO1309 BK1290 HB hHeld ⊢
 refine pure_ (i := 0) (N := some 113) (v := ?_) (a' := ?_) (fl_ 98 1) rfl rfl (any_of HT_.out (by kernel_rfl)) (fun _ _ _ h => h) (Or.inl ⟨by rfl, ?_⟩) ?_ ?_
 rotate_left
 ·intro w'
  go_simp
  with_reducible rfl
 rotate_left
 ·simp only [Act.put, List.setIfInBounds_toArray, List.set_cons_zero, List.set_cons_succ, i64_w, i32_w]
  rfl
 refine pure_ (i := 1) (N := some 114) (v := ?_) (a' := ?_) (fl_ 98 2) rfl rfl (any_of HT_.out (by kernel_rfl)) (fun _ _ _ h => h) (Or.inl ⟨by rfl, ?_⟩) ?_ ?_
 rotate_left
 ·intro w'
  go_simp
  with_reducible rfl
 rotate_left
 ·simp only [Act.put, List.setIfInBounds_toArray, List.set_cons_zero, List.set_cons_succ, i64_w, i32_w]
  rfl
 refine pure_ (i := 2) (N := some 115) (v := ?_) (a' := ?_) (fl_ 98 3) rfl rfl (any_of HT_.out (by kernel_rfl)) (fun _ _ _ h => h) (Or.inl ⟨by rfl, ?_⟩) ?_ ?_
 rotate_left
 ·intro w'
  go_simp
  with_reducible rfl
 rotate_left
 ·simp only [Act.put, List.setIfInBounds_toArray, List.set_cons_zero, List.set_cons_succ, i64_w, i32_w]
  rfl
 refine pure_ (i := 3) (N := some 116) (v := ?_) (a' := ?_) (fl_ 98 4) rfl rfl (any_of HT_.out (by kernel_rfl)) (fun _ _ _ h => h) (Or.inl ⟨by rfl, ?_⟩) ?_ ?_
 rotate_left
 ·intro w'
  go_simp
  with_reducible rfl
 rotate_left
 ·simp only [Act.put, List.setIfInBounds_toArray, List.set_cons_zero, List.set_cons_succ, i64_w, i32_w]
  rfl
 refine pure_ (i := 4) (N := some 117) (v := ?_) (a' := ?_) (fl_ 98 5) rfl rfl (any_of HT_.out (by kernel_rfl)) (fun _ _ _ h => h) (Or.inl ⟨by rfl, ?_⟩) ?_ ?_
 rotate_left
 ·intro w'
  go_simp
  with_reducible rfl
 rotate_left
 ·simp only [Act.put, List.setIfInBounds_toArray, List.set_cons_zero, List.set_cons_succ, i64_w, i32_w]
  rfl
 refine pure_ (i := 5) (N := some 118) (v := ?_) (a' := ?_) (fl_ 98 6) rfl rfl (any_of HT_.out (by kernel_rfl)) (fun _ _ _ h => h) (Or.inl ⟨by rfl, ?_⟩) ?_ ?_
 rotate_left
 ·intro w'
  go_simp
  with_reducible rfl
 rotate_left
 ·simp only [Act.put, List.setIfInBounds_toArray, List.set_cons_zero, List.set_cons_succ, i64_w, i32_w]
  rfl
 refine one_ (i := 6) (N := some 119) (fl_ 98 7) rfl rfl (one_of HT_.out (by kernel_rfl)) (by decide) (fun K hK => ?_)
 refine gs_ Try.func39 (by kernel_rfl) rfl #[.slice Ao71 t1291.length co71, .slice Ao72 t1295.length co72] (by rfl) rfl rfl ?_
 with_reducible refine (laws_nSame.calls k _ _ t1291 _ _ t1295 true _ ?side1 ?side2 ?side3 ?side4 A19.out).mono ?_
 (case side1 => exact Cl_ (Kd.R_reads' HO1293.out).2.2)
 (case side2 => exact (Kd.R_reads' HO1293.out).2.1)
 (case side3 => exact Cl_ (Kd.R_reads' HO1297.out).2.2)
 (case side4 => exact (Kd.R_reads' HO1297.out).2.1)
 rintro e w' ⟨rfl, ⟨nd, rfl⟩⟩
 refine ⟨_, rfl, ?_⟩
 obtain ⟨Ao73, co73, eo73⟩ := Kd.R_slice HO1305.out
 (first | subst eo73 | (injection eo73 with f1_ f2_ f3_; have f4_ := f1_.symm; have f5_ := f3_.symm; clear f1_ f2_ f3_; subst f4_; subst f5_))
 obtain ⟨Ao74, co74, eo74⟩ := Kd.R_slice HO1309.out
 (first | subst eo74 | (injection eo74 with f1_ f2_ f3_; have f4_ := f1_.symm; have f5_ := f3_.symm; clear f1_ f2_ f3_; subst f4_; subst f5_))
 refine hK.out _ _ ⟨(blk_cell BK1290.out 0).trans rfl, (blk_cell BK1290.out 1).trans rfl⟩ (fun hHeld => ?_)
 clear hK K
 refine norm_ (a' := ?_) ?_ ?_
 rotate_left
 ·show Act.put _ (some 119) _ = _
  simp only [Act.put, List.setIfInBounds_toArray, List.set_cons_zero, List.set_cons_succ, i64_w, i32_w]
  rfl
 refine pure_ (i := 7) (N := some 120) (v := ?_) (a' := ?_) (fl_ 98 8) rfl rfl (any_of HT_.out (by kernel_rfl)) (fun _ _ _ h => h) (Or.inl ⟨by rfl, ?_⟩) ?_ ?_
 rotate_left
 ·intro w'
  go_simp
  with_reducible rfl
 rotate_left
 ·simp only [Act.put, List.setIfInBounds_toArray, List.set_cons_zero, List.set_cons_succ, i64_w, i32_w]
  rfl
 refine pure_ (i := 8) (N := some 121) (v := ?_) (a' := ?_) (fl_ 98 9) rfl rfl (any_of HT_.out (by kernel_rfl)) (fun _ _ _ h => h) (Or.inl ⟨by rfl, ?_⟩) ?_ ?_
 rotate_left
 ·intro w'
  go_simp
  with_reducible rfl
 rotate_left
 ·simp only [Act.put, List.setIfInBounds_toArray, List.set_cons_zero, List.set_cons_succ, i64_w, i32_w]
  rfl
 refine pure_ (i := 9) (N := some 122) (v := ?_) (a' := ?_) (fl_ 98 10) rfl rfl (any_of HT_.out (by kernel_rfl)) (fun _ _ _ h => h) (Or.inl ⟨by rfl, ?_⟩) ?_ ?_
 rotate_left
 ·intro w'
  go_simp
  with_reducible rfl
 rotate_left
 ·simp only [Act.put, List.setIfInBounds_toArray, List.set_cons_zero, List.set_cons_succ, i64_w, i32_w]
  rfl
 refine pure_ (i := 10) (N := some 123) (v := ?_) (a' := ?_) (fl_ 98 11) rfl rfl (any_of HT_.out (by kernel_rfl)) (fun _ _ _ h => h) (Or.inl ⟨by rfl, ?_⟩) ?_ ?_
 rotate_left
 ·intro w'
  go_simp
  with_reducible rfl
 rotate_left
 ·simp only [Act.put, List.setIfInBounds_toArray, List.set_cons_zero, List.set_cons_succ, i64_w, i32_w]
  rfl
 refine pure_ (i := 11) (N := some 124) (v := ?_) (a' := ?_) (fl_ 98 12) rfl rfl (any_of HT_.out (by kernel_rfl)) (fun _ _ _ h => h) (Or.inl ⟨by rfl, ?_⟩) ?_ ?_
 rotate_left
 ·intro w'
  go_simp
  with_reducible rfl
 rotate_left
 ·simp only [Act.put, List.setIfInBounds_toArray, List.set_cons_zero, List.set_cons_succ, i64_w, i32_w]
  rfl
 refine pure_ (i := 12) (N := some 125) (v := ?_) (a' := ?_) (fl_ 98 13) rfl rfl (any_of HT_.out (by kernel_rfl)) (fun _ _ _ h => h) (Or.inl ⟨by rfl, ?_⟩) ?_ ?_
 rotate_left
 ·intro w'
  go_simp
  with_reducible rfl
 rotate_left
 ·simp only [Act.put, List.setIfInBounds_toArray, List.set_cons_zero, List.set_cons_succ, i64_w, i32_w]
  rfl
 refine pure_ (i := 13) (N := some 126) (v := ?_) (a' := ?_) (fl_ 98 14) rfl rfl (any_of HT_.out (by kernel_rfl)) (fun _ _ _ h => h) (Or.inl ⟨by rfl, ?_⟩) ?_ ?_
 rotate_left
 ·intro w'
  go_simp
  with_reducible rfl
 rotate_left
 ·simp only [Act.put, List.setIfInBounds_toArray, List.set_cons_zero, List.set_cons_succ, i64_w, i32_w]
  rfl
 refine pure_ (i := 14) (N := some 127) (v := ?_) (a' := ?_) (fl_ 98 15) rfl rfl (any_of HT_.out (by kernel_rfl)) (fun _ _ _ h => h) (Or.inl ⟨by rfl, ?_⟩) ?_ ?_
 rotate_left
 ·intro w'
  go_simp
  with_reducible rfl
 rotate_left
 ·simp only [Act.put, List.setIfInBounds_toArray, List.set_cons_zero, List.set_cons_succ, i64_w, i32_w]
  rfl
 refine pure_ (i := 15) (N := some 128) (v := ?_) (a' := ?_) (fl_ 98 16) rfl rfl (any_of HT_.out (by kernel_rfl)) (fun _ _ _ h => h) (Or.inl ⟨by rfl, ?_⟩) ?_ ?_
 rotate_left
 ·intro w'
  go_simp
  with_reducible rfl
 rotate_left
 ·simp only [Act.put, List.setIfInBounds_toArray, List.set_cons_zero, List.set_cons_succ, i64_w, i32_w]
  rfl
 refine pure_ (i := 16) (N := some 129) (v := ?_) (a' := ?_) (fl_ 98 17) rfl rfl (any_of HT_.out (by kernel_rfl)) (fun _ _ _ h => h) (Or.inl ⟨by rfl, ?_⟩) ?_ ?_
 rotate_left
 ·intro w'
  go_simp
  with_reducible rfl
 rotate_left
 ·simp only [Act.put, List.setIfInBounds_toArray, List.set_cons_zero, List.set_cons_succ, i64_w, i32_w]
  rfl
 refine pure_ (i := 17) (N := some 130) (v := ?_) (a' := ?_) (fl_ 98 18) rfl rfl (any_of HT_.out (by kernel_rfl)) (fun _ _ _ h => h) (Or.inl ⟨by rfl, ?_⟩) ?_ ?_
 rotate_left
 ·intro w'
  go_simp
  with_reducible rfl
 rotate_left
 ·simp only [Act.put, List.setIfInBounds_toArray, List.set_cons_zero, List.set_cons_succ, i64_w, i32_w]
  rfl
 refine pure_ (i := 18) (N := some 131) (v := ?_) (a' := ?_) (fl_ 98 19) rfl rfl (any_of HT_.out (by kernel_rfl)) (fun _ _ _ h => h) (Or.inl ⟨by rfl, ?_⟩) ?_ ?_
 rotate_left
 ·intro w'
  go_simp
  with_reducible rfl
 rotate_left
 ·simp only [Act.put, List.setIfInBounds_toArray, List.set_cons_zero, List.set_cons_succ, i64_w, i32_w]
  rfl
 refine pure_ (i := 19) (N := some 132) (v := ?_) (a' := ?_) (fl_ 98 20) rfl rfl (any_of HT_.out (by kernel_rfl)) (fun _ _ _ h => h) (Or.inl ⟨by rfl, ?_⟩) ?_ ?_
 rotate_left
 ·intro w'
  go_simp
  with_reducible rfl
 rotate_left
 ·simp only [Act.put, List.setIfInBounds_toArray, List.set_cons_zero, List.set_cons_succ, i64_w, i32_w]
  rfl
 refine pure_ (i := 20) (N := some 133) (v := ?_) (a' := ?_) (fl_ 98 21) rfl rfl (any_of HT_.out (by kernel_rfl)) (fun _ _ _ h => h) (Or.inl ⟨by rfl, ?_⟩) ?_ ?_
 rotate_left
 ·intro w'
  go_simp
  with_reducible rfl
 rotate_left
 ·simp only [Act.put, List.setIfInBounds_toArray, List.set_cons_zero, List.set_cons_succ, i64_w, i32_w]
  rfl
 refine pure_ (i := 21) (N := some 134) (v := ?_) (a' := ?_) (fl_ 98 22) rfl rfl (any_of HT_.out (by kernel_rfl)) (fun _ _ _ h => h) (Or.inl ⟨by rfl, ?_⟩) ?_ ?_
 rotate_left
 ·intro w'
  go_simp
  with_reducible rfl
 rotate_left
 ·simp only [Act.put, List.setIfInBounds_toArray, List.set_cons_zero, List.set_cons_succ, i64_w, i32_w]
  rfl
 refine pure_ (i := 22) (N := some 135) (v := ?_) (a' := ?_) (fl_ 98 23) rfl rfl (any_of HT_.out (by kernel_rfl)) (fun _ _ _ h => h) (Or.inl ⟨by rfl, ?_⟩) ?_ ?_
 rotate_left
 ·intro w'
  go_simp
  with_reducible rfl
 rotate_left
 ·simp only [Act.put, List.setIfInBounds_toArray, List.set_cons_zero, List.set_cons_succ, i64_w, i32_w]
  rfl
 refine pure_ (i := 23) (N := some 136) (v := ?_) (a' := ?_) (fl_ 98 24) rfl rfl (any_of HT_.out (by kernel_rfl)) (fun _ _ _ h => h) (Or.inl ⟨by rfl, ?_⟩) ?_ ?_
 rotate_left
 ·intro w'
  go_simp
  with_reducible rfl
 rotate_left
 ·simp only [Act.put, List.setIfInBounds_toArray, List.set_cons_zero, List.set_cons_succ, i64_w, i32_w]
  rfl
 refine pure_ (i := 24) (N := some 137) (v := ?_) (a' := ?_) (fl_ 98 25) rfl rfl (any_of HT_.out (by kernel_rfl)) (fun _ _ _ h => h) (Or.inl ⟨by rfl, ?_⟩) ?_ ?_
 rotate_left
 ·intro w'
  go_simp
  with_reducible rfl
 rotate_left
 ·simp only [Act.put, List.setIfInBounds_toArray, List.set_cons_zero, List.set_cons_succ, i64_w, i32_w]
  rfl
 refine pure_ (i := 25) (N := some 138) (v := ?_) (a' := ?_) (fl_ 98 26) rfl rfl (any_of HT_.out (by kernel_rfl)) (fun _ _ _ h => h) (Or.inl ⟨by rfl, ?_⟩) ?_ ?_
 rotate_left
 ·intro w'
  go_simp
  with_reducible rfl
 rotate_left
 ·simp only [Act.put, List.setIfInBounds_toArray, List.set_cons_zero, List.set_cons_succ, i64_w, i32_w]
  rfl
 refine pure_ (i := 26) (N := some 139) (v := ?_) (a' := ?_) (fl_ 98 27) rfl rfl (any_of HT_.out (by kernel_rfl)) (fun _ _ _ h => h) (Or.inl ⟨by rfl, ?_⟩) ?_ ?_
 rotate_left
 ·intro w'
  go_simp
  with_reducible rfl
 rotate_left
 ·simp only [Act.put, List.setIfInBounds_toArray, List.set_cons_zero, List.set_cons_succ, i64_w, i32_w]
  rfl
 refine one_ (i := 27) (N := some 140) (fl_ 98 28) rfl rfl (one_of HT_.out (by kernel_rfl)) (by decide) (fun K hK => ?_)
 refine gs_ Try.func39 (by kernel_rfl) rfl #[.slice Ao73 t1303.length co73, .slice Ao74 t1307.length co74] (by rfl) rfl rfl ?_
 with_reducible refine (laws_nSame.calls k _ _ t1303 _ _ t1307 true _ ?side1 ?side2 ?side3 ?side4 A24.out).mono ?_
 (case side1 => exact Cl_ (Kd.R_reads' HO1305.out).2.2)
 (case side2 => exact (Kd.R_reads' HO1305.out).2.1)
 (case side3 => exact Cl_ (Kd.R_reads' HO1309.out).2.2)
 (case side4 => exact (Kd.R_reads' HO1309.out).2.1)
 rintro e w' ⟨rfl, ⟨nd, rfl⟩⟩
 refine ⟨_, rfl, ?_⟩
 refine hK.out _ _ ⟨(blk_cell BK1290.out 0).trans rfl, (blk_cell BK1290.out 1).trans rfl⟩ (fun hHeld => ?_)
 clear hK K
 refine norm_ (a' := ?_) ?_ ?_
 rotate_left
 ·show Act.put _ (some 140) _ = _
  simp only [Act.put, List.setIfInBounds_toArray, List.set_cons_zero, List.set_cons_succ, i64_w, i32_w]
  rfl
 refine pure_ (i := 28) (N := some 141) (v := ?_) (a' := ?_) (fl_ 98 29) rfl rfl (any_of HT_.out (by kernel_rfl)) (fun _ _ _ h => h) (Or.inl ⟨by rfl, ?_⟩) ?_ ?_
 rotate_left
 ·intro w'
  go_simp
  with_reducible rfl
 rotate_left
 ·simp only [Act.put, List.setIfInBounds_toArray, List.set_cons_zero, List.set_cons_succ, i64_w, i32_w]
  rfl
 refine pure_ (i := 29) (N := some 142) (v := ?_) (a' := ?_) (fl_ 98 30) rfl rfl (any_of HT_.out (by kernel_rfl)) (fun _ _ _ h => h) (Or.inl ⟨by rfl, ?_⟩) ?_ ?_
 rotate_left
 ·intro w'
  go_simp
  with_reducible rfl
 rotate_left
 ·simp only [Act.put, List.setIfInBounds_toArray, List.set_cons_zero, List.set_cons_succ, i64_w, i32_w]
  rfl
 refine pure_ (i := 30) (N := some 143) (v := ?_) (a' := ?_) (fl_ 98 31) rfl rfl (any_of HT_.out (by kernel_rfl)) (fun _ _ _ h => h) (Or.inl ⟨by rfl, ?_⟩) ?_ ?_
 rotate_left
 ·intro w'
  go_simp
  with_reducible rfl
 rotate_left
 ·simp only [Act.put, List.setIfInBounds_toArray, List.set_cons_zero, List.set_cons_succ, i64_w, i32_w]
  rfl
 refine pure_ (i := 31) (N := some 144) (v := ?_) (a' := ?_) (fl_ 98 32) rfl rfl (any_of HT_.out (by kernel_rfl)) (fun _ _ _ h => h) (Or.inl ⟨by rfl, ?_⟩) ?_ ?_
 rotate_left
 ·intro w'
  go_simp
  with_reducible rfl
 rotate_left
 ·simp only [Act.put, List.setIfInBounds_toArray, List.set_cons_zero, List.set_cons_succ, i64_w, i32_w]
  rfl
 refine pure_ (i := 32) (N := some 145) (v := ?_) (a' := ?_) (fl_ 98 33) rfl rfl (any_of HT_.out (by kernel_rfl)) (fun _ _ _ h => h) (Or.inl ⟨by rfl, ?_⟩) ?_ ?_
 rotate_left
 ·intro w'
  go_simp
  with_reducible rfl
 rotate_left
 ·simp only [Act.put, List.setIfInBounds_toArray, List.set_cons_zero, List.set_cons_succ, i64_w, i32_w]
  rfl
 refine pure_ (i := 33) (N := some 146) (v := ?_) (a' := ?_) (fl_ 98 34) rfl rfl (any_of HT_.out (by kernel_rfl)) (fun _ _ _ h => h) (Or.inl ⟨by rfl, ?_⟩) ?_ ?_
 rotate_left
 ·intro w'
  go_simp
  with_reducible rfl
 rotate_left
 ·simp only [Act.put, List.setIfInBounds_toArray, List.set_cons_zero, List.set_cons_succ, i64_w, i32_w]
  rfl
 refine pure_ (i := 34) (N := some 147) (v := ?_) (a' := ?_) (fl_ 98 35) rfl rfl (any_of HT_.out (by kernel_rfl)) (fun _ _ _ h => h) (Or.inl ⟨by rfl, ?_⟩) ?_ ?_
 rotate_left
 ·intro w'
  go_simp
  with_reducible rfl
 rotate_left
 ·simp only [Act.put, List.setIfInBounds_toArray, List.set_cons_zero, List.set_cons_succ, i64_w, i32_w]
  rfl
 refine pure_ (i := 35) (N := some 148) (v := ?_) (a' := ?_) (fl_ 98 36) rfl rfl (any_of HT_.out (by kernel_rfl)) (fun _ _ _ h => h) (Or.inl ⟨by rfl, ?_⟩) ?_ ?_
 rotate_left
 ·intro w'
  go_simp
  with_reducible rfl
 rotate_left
 ·simp only [Act.put, List.setIfInBounds_toArray, List.set_cons_zero, List.set_cons_succ, i64_w, i32_w]
  rfl
 refine pure_ (i := 36) (N := some 149) (v := ?_) (a' := ?_) (fl_ 98 37) rfl rfl (any_of HT_.out (by kernel_rfl)) (fun _ _ _ h => h) (Or.inl ⟨by rfl, ?_⟩) ?_ ?_
 rotate_left
 ·intro w'
  go_simp
  with_reducible rfl
 rotate_left
 ·simp only [Act.put, List.setIfInBounds_toArray, List.set_cons_zero, List.set_cons_succ, i64_w, i32_w]
  rfl
 refine pure_ (i := 37) (N := some 150) (v := ?_) (a' := ?_) (fl_ 98 38) rfl rfl (any_of HT_.out (by kernel_rfl)) (fun _ _ _ h => h) (Or.inl ⟨by rfl, ?_⟩) ?_ ?_
 rotate_left
 ·intro w'
  go_simp
  with_reducible rfl
 rotate_left
 ·simp only [Act.put, List.setIfInBounds_toArray, List.set_cons_zero, List.set_cons_succ, i64_w, i32_w]
  rfl
 refine pure_ (i := 38) (N := some 151) (v := ?_) (a' := ?_) (fl_ 98 39) rfl rfl (any_of HT_.out (by kernel_rfl)) (fun _ _ _ h => h) (Or.inl ⟨by rfl, ?_⟩) ?_ ?_
 rotate_left
 ·intro w'
  go_simp
  with_reducible rfl
 rotate_left
 ·simp only [Act.put, List.setIfInBounds_toArray, List.set_cons_zero, List.set_cons_succ, i64_w, i32_w]
  rfl
 refine pure_ (i := 39) (N := some 152) (v := ?_) (a' := ?_) (fl_ 98 40) rfl rfl (any_of HT_.out (by kernel_rfl)) (fun _ _ _ h => h) (Or.inl ⟨by rfl, ?_⟩) ?_ ?_
 rotate_left
 ·intro w'
  go_simp
  with_reducible rfl
 rotate_left
 ·simp only [Act.put, List.setIfInBounds_toArray, List.set_cons_zero, List.set_cons_succ, i64_w, i32_w]
  rfl
 refine pure_ (i := 40) (N := some 153) (v := ?_) (a' := ?_) (fl_ 98 41) rfl rfl (any_of HT_.out (by kernel_rfl)) (fun _ _ _ h => h) (Or.inl ⟨by rfl, ?_⟩) ?_ ?_
 rotate_left
 ·intro w'
  go_simp
  with_reducible rfl
 rotate_left
 ·simp only [Act.put, List.setIfInBounds_toArray, List.set_cons_zero, List.set_cons_succ, i64_w, i32_w]
  rfl
 refine pure_ (i := 41) (N := some 154) (v := ?_) (a' := ?_) (fl_ 98 42) rfl rfl (any_of HT_.out (by kernel_rfl)) (fun _ _ _ h => h) (Or.inl ⟨by rfl, ?_⟩) ?_ ?_
 rotate_left
 ·intro w'
  go_simp
  with_reducible rfl
 rotate_left
 ·simp only [Act.put, List.setIfInBounds_toArray, List.set_cons_zero, List.set_cons_succ, i64_w, i32_w]
  rfl
 refine pure_ (i := 42) (N := some 155) (v := ?_) (a' := ?_) (fl_ 98 43) rfl rfl (any_of HT_.out (by kernel_rfl)) (fun _ _ _ h => h) (Or.inl ⟨by rfl, ?_⟩) ?_ ?_
 rotate_left
 ·intro w'
  go_simp
  with_reducible rfl
 rotate_left
 ·simp only [Act.put, List.setIfInBounds_toArray, List.set_cons_zero, List.set_cons_succ, i64_w, i32_w]
  rfl
 refine pure_ (i := 43) (N := some 156) (v := ?_) (a' := ?_) (fl_ 98 44) rfl rfl (any_of HT_.out (by kernel_rfl)) (fun _ _ _ h => h) (Or.inl ⟨by rfl, ?_⟩) ?_ ?_
 rotate_left
 ·intro w'
  go_simp
  with_reducible rfl
 rotate_left
 ·simp only [Act.put, List.setIfInBounds_toArray, List.set_cons_zero, List.set_cons_succ, i64_w, i32_w]
  rfl
 refine pure_ (i := 44) (N := some 157) (v := ?_) (a' := ?_) (fl_ 98 45) rfl rfl (any_of HT_.out (by kernel_rfl)) (fun _ _ _ h => h) (Or.inl ⟨by rfl, ?_⟩) ?_ ?_
 rotate_left
 ·intro w'
  go_simp
  with_reducible rfl
 rotate_left
 ·simp only [Act.put, List.setIfInBounds_toArray, List.set_cons_zero, List.set_cons_succ, i64_w, i32_w]
  rfl
 refine pure_ (i := 45) (N := some 158) (v := ?_) (a' := ?_) (fl_ 98 46) rfl rfl (any_of HT_.out (by kernel_rfl)) (fun _ _ _ h => h) (Or.inl ⟨by rfl, ?_⟩) ?_ ?_
 rotate_left
 ·intro w'
  go_simp
  with_reducible rfl
 rotate_left
 ·simp only [Act.put, List.setIfInBounds_toArray, List.set_cons_zero, List.set_cons_succ, i64_w, i32_w]
  rfl
 refine pure_ (i := 46) (N := some 159) (v := ?_) (a' := ?_) (fl_ 98 47) rfl rfl (any_of HT_.out (by kernel_rfl)) (fun _ _ _ h => h) (Or.inl ⟨by rfl, ?_⟩) ?_ ?_
 rotate_left
 ·intro w'
  go_simp
  with_reducible rfl
 rotate_left
 ·simp only [Act.put, List.setIfInBounds_toArray, List.set_cons_zero, List.set_cons_succ, i64_w, i32_w]
  rfl
 refine pure_ (i := 47) (N := some 160) (v := ?_) (a' := ?_) (fl_ 98 48) rfl rfl (any_of HT_.out (by kernel_rfl)) (fun _ _ _ h => h) (Or.inl ⟨by rfl, ?_⟩) ?_ ?_
 rotate_left
 ·intro w'
  go_simp
  with_reducible rfl
 rotate_left
 ·simp only [Act.put, List.setIfInBounds_toArray, List.set_cons_zero, List.set_cons_succ, i64_w, i32_w]
  rfl
 refine pure_ (i := 48) (N := some 161) (v := ?_) (a' := ?_) (fl_ 98 49) rfl rfl (any_of HT_.out (by kernel_rfl)) (fun _ _ _ h => h) (Or.inl ⟨by rfl, ?_⟩) ?_ ?_
 rotate_left
 ·intro w'
  go_simp
  with_reducible rfl
 rotate_left
 ·simp only [Act.put, List.setIfInBounds_toArray, List.set_cons_zero, List.set_cons_succ, i64_w, i32_w]
  rfl
 refine pure_ (i := 49) (N := some 162) (v := ?_) (a' := ?_) (fl_ 98 50) rfl rfl (any_of HT_.out (by kernel_rfl)) (fun _ _ _ h => h) (Or.inl ⟨by rfl, ?_⟩) ?_ ?_
 rotate_left
 ·intro w'
  go_simp
  with_reducible rfl
 rotate_left
 ·simp only [Act.put, List.setIfInBounds_toArray, List.set_cons_zero, List.set_cons_succ, i64_w, i32_w]
  rfl
 refine pure_ (i := 50) (N := some 163) (v := ?_) (a' := ?_) (fl_ 98 51) rfl rfl (any_of HT_.out (by kernel_rfl)) (fun _ _ _ h => h) (Or.inl ⟨by rfl, ?_⟩) ?_ ?_
 rotate_left
 ·intro w'
  go_simp
  with_reducible rfl
 rotate_left
 ·simp only [Act.put, List.setIfInBounds_toArray, List.set_cons_zero, List.set_cons_succ, i64_w, i32_w]
  rfl
 refine pure_ (i := 51) (N := some 164) (v := ?_) (a' := ?_) (fl_ 98 52) rfl rfl (any_of HT_.out (by kernel_rfl)) (fun _ _ _ h => h) (Or.inl ⟨by rfl, ?_⟩) ?_ ?_
 rotate_left
 ·intro w'
  go_simp
  with_reducible rfl
 rotate_left
 ·simp only [Act.put, List.setIfInBounds_toArray, List.set_cons_zero, List.set_cons_succ, i64_w, i32_w]
  rfl
 refine pure_ (i := 52) (N := some 165) (v := ?_) (a' := ?_) (fl_ 98 53) rfl rfl (any_of HT_.out (by kernel_rfl)) (fun _ _ _ h => h) (Or.inl ⟨by rfl, ?_⟩) ?_ ?_
 rotate_left
 ·intro w'
  go_simp
  with_reducible rfl
 rotate_left
 ·simp only [Act.put, List.setIfInBounds_toArray, List.set_cons_zero, List.set_cons_succ, i64_w, i32_w]
  rfl
 refine pure_ (i := 53) (N := some 166) (v := ?_) (a' := ?_) (fl_ 98 54) rfl rfl (any_of HT_.out (by kernel_rfl)) (fun _ _ _ h => h) (Or.inl ⟨by rfl, ?_⟩) ?_ ?_
 rotate_left
 ·intro w'
  go_simp
  with_reducible rfl
 rotate_left
 ·simp only [Act.put, List.setIfInBounds_toArray, List.set_cons_zero, List.set_cons_succ, i64_w, i32_w]
  rfl
 refine pure_ (i := 54) (N := some 167) (v := ?_) (a' := ?_) (fl_ 98 55) rfl rfl (any_of HT_.out (by kernel_rfl)) (fun _ _ _ h => h) (Or.inl ⟨by rfl, ?_⟩) ?_ ?_
 rotate_left
 ·intro w'
  go_simp
  with_reducible rfl
 rotate_left
 ·simp only [Act.put, List.setIfInBounds_toArray, List.set_cons_zero, List.set_cons_succ, i64_w, i32_w]
  rfl
 refine pure_ (i := 55) (N := some 168) (v := ?_) (a' := ?_) (fl_ 98 56) rfl rfl (any_of HT_.out (by kernel_rfl)) (fun _ _ _ h => h) (Or.inl ⟨by rfl, ?_⟩) ?_ ?_
 rotate_left
 ·intro w'
  go_simp
  with_reducible rfl
 rotate_left
 ·simp only [Act.put, List.setIfInBounds_toArray, List.set_cons_zero, List.set_cons_succ, i64_w, i32_w]
  rfl
 refine pure_ (i := 56) (N := some 169) (v := ?_) (a' := ?_) (fl_ 98 57) rfl rfl (any_of HT_.out (by kernel_rfl)) (fun _ _ _ h => h) (Or.inl ⟨by rfl, ?_⟩) ?_ ?_
 rotate_left
 ·intro w'
  go_simp
  with_reducible rfl
 rotate_left
 ·simp only [Act.put, List.setIfInBounds_toArray, List.set_cons_zero, List.set_cons_succ, i64_w, i32_w]
  rfl
 refine pure_ (i := 57) (N := some 170) (v := ?_) (a' := ?_) (fl_ 98 58) rfl rfl (any_of HT_.out (by kernel_rfl)) (fun _ _ _ h => h) (Or.inl ⟨by rfl, ?_⟩) ?_ ?_
 rotate_left
 ·intro w'
  go_simp
  with_reducible rfl
 rotate_left
 ·simp only [Act.put, List.setIfInBounds_toArray, List.set_cons_zero, List.set_cons_succ, i64_w, i32_w]
  rfl
 refine pure_ (i := 58) (N := some 171) (v := ?_) (a' := ?_) (fl_ 98 59) rfl rfl (any_of HT_.out (by kernel_rfl)) (fun _ _ _ h => h) (Or.inl ⟨by rfl, ?_⟩) ?_ ?_
 rotate_left
 ·intro w'
  go_simp
  with_reducible rfl
 rotate_left
 ·simp only [Act.put, List.setIfInBounds_toArray, List.set_cons_zero, List.set_cons_succ, i64_w, i32_w]
  rfl
 refine pure_ (i := 59) (N := some 172) (v := ?_) (a' := ?_) (fl_ 98 60) rfl rfl (any_of HT_.out (by kernel_rfl)) (fun _ _ _ h => h) (Or.inl ⟨by rfl, ?_⟩) ?_ ?_
 rotate_left
 ·intro w'
  go_simp
  with_reducible rfl
 rotate_left
 ·simp only [Act.put, List.setIfInBounds_toArray, List.set_cons_zero, List.set_cons_succ, i64_w, i32_w]
  rfl
 refine pure_ (i := 60) (N := some 173) (v := ?_) (a' := ?_) (fl_ 98 61) rfl rfl (any_of HT_.out (by kernel_rfl)) (fun _ _ _ h => h) (Or.inl ⟨by rfl, ?_⟩) ?_ ?_
 rotate_left
 ·intro w'
  go_simp
  with_reducible rfl
 rotate_left
 ·simp only [Act.put, List.setIfInBounds_toArray, List.set_cons_zero, List.set_cons_succ, i64_w, i32_w]
  rfl
 refine pure_ (i := 61) (N := some 174) (v := ?_) (a' := ?_) (fl_ 98 62) rfl rfl (any_of HT_.out (by kernel_rfl)) (fun _ _ _ h => h) (Or.inl ⟨by rfl, ?_⟩) ?_ ?_
 rotate_left
 ·intro w'
  go_simp
  with_reducible rfl
 rotate_left
 ·simp only [Act.put, List.setIfInBounds_toArray, List.set_cons_zero, List.set_cons_succ, i64_w, i32_w]
  rfl
 refine take_ (i := 62) (N := some 175) (v := ?_) (a' := ?_) (fl_ 98 63) rfl rfl (take_ofW HT_.out HW_.out (by kernel_rfl)) (fun _ _ _ h => h) (Or.inl ⟨by rfl, ?_⟩) hHeld ?_ ?_
 rotate_left
 ·rintro w' ⟨s0, s1⟩
  go_simp
  with_reducible rfl
 rotate_left
 ·simp only [Act.put, List.setIfInBounds_toArray, List.set_cons_zero, List.set_cons_succ, i64_w, i32_w]
  rfl
 refine one_ (i := 63) (N := some 176) (fl_ 98 64) rfl rfl (one_of HT_.out (by kernel_rfl)) (by decide) (fun K hK => ?_)
 refine gs_ Try.func61 (by kernel_rfl) rfl #[.agg #[.int .i64 t1286, .slice Ao46 t1287.length co46]] (by rfl) rfl rfl ?_
 with_reducible refine (impl_IsTaking.calls k t1286 _ _ t1287 t1325 _ ?side1 ?side2 A32.out).mono ?_
 (case side1 => exact Cl_ (Kd.R_reads' HO1289.out).2.2)
 (case side2 => exact (Kd.R_reads' HO1289.out).2.1)
 rintro e w75 ⟨rfl, hb⟩
 refine ⟨_, rfl, ?_⟩
 replace HO1289 := Aside0.mk (Kd.R_below (Rl_ HO1289.out) hb)
 replace HO1293 := Aside0.mk (Kd.R_below (Rl_ HO1293.out) hb)
 replace HO1297 := Aside0.mk (Kd.R_below (Rl_ HO1297.out) hb)
 replace HO1305 := Aside0.mk (Kd.R_below (Rl_ HO1305.out) hb)
 replace HO1309 := Aside0.mk (Kd.R_below (Rl_ HO1309.out) hb)
 replace BK1290 := blkB_ BK1290 hb
 replace HB := Aside0.mk (below_step (Bl_ HB) hb)
 (try clear hb); (try clear hb2); (try clear hk); (try clear hi); (try clear ho0)
 refine hK.out _ _ ⟨(blk_cell BK1290.out 0).trans rfl, (blk_cell BK1290.out 1).trans rfl⟩ (fun hHeld => ?_)
 clear hK K
 refine norm_ (a' := ?_) ?_ ?_
 rotate_left
 ·show Act.put _ (some 176) _ = _
  simp only [Act.put, List.setIfInBounds_toArray, List.set_cons_zero, List.set_cons_succ, i64_w, i32_w]
  rfl
 refine pure_ (i := 64) (N := some 177) (v := ?_) (a' := ?_) (fl_ 98 65) rfl rfl (any_of HT_.out (by kernel_rfl)) (fun _ _ _ h => h) (Or.inl ⟨by rfl, ?_⟩) ?_ ?_
 rotate_left
 ·intro w'
  go_simp
  with_reducible rfl
 rotate_left
 ·simp only [Act.put, List.setIfInBounds_toArray, List.set_cons_zero, List.set_cons_succ, i64_w, i32_w]
  rfl
 refine pure_ (i := 65) (N := some 178) (v := ?_) (a' := ?_) (fl_ 98 66) rfl rfl (any_of HT_.out (by kernel_rfl)) (fun _ _ _ h => h) (Or.inl ⟨by rfl, ?_⟩) ?_ ?_
 rotate_left
 ·intro w'
  go_simp
  with_reducible rfl
 rotate_left
 ·simp only [Act.put, List.setIfInBounds_toArray, List.set_cons_zero, List.set_cons_succ, i64_w, i32_w]
  rfl
 refine pure_ (i := 66) (N := some 179) (v := ?_) (a' := ?_) (fl_ 98 67) rfl rfl (any_of HT_.out (by kernel_rfl)) (fun _ _ _ h => h) (Or.inl ⟨by rfl, ?_⟩) ?_ ?_
 rotate_left
 ·intro w'
  go_simp
  with_reducible rfl
 rotate_left
 ·simp only [Act.put, List.setIfInBounds_toArray, List.set_cons_zero, List.set_cons_succ, i64_w, i32_w]
  rfl
 refine take_ (i := 67) (N := some 180) (v := ?_) (a' := ?_) (fl_ 98 68) rfl rfl (take_ofW HT_.out HW_.out (by kernel_rfl)) (fun _ _ _ h => h) (Or.inl ⟨by rfl, ?_⟩) hHeld ?_ ?_
 rotate_left
 ·rintro w' ⟨s0, s1⟩
  go_simp
  with_reducible rfl
 rotate_left
 ·simp only [Act.put, List.setIfInBounds_toArray, List.set_cons_zero, List.set_cons_succ, i64_w, i32_w]
  rfl
 refine take_ (i := 69) (N := some 182) (v := ?_) (a' := ?_) #[true, true, true, true, true, true, true, true, true, true, true, true, true, true, true, true, true, true, true, true, true, true, true, true, true, true, true, true, true, true, true, true, true, true, true, true, true, true, true, true, true, true, true, true, true, true, true, true, true, true, true, true, true, true, true, true, true, true, true, true, true, true, true, true, true, true, true, true, false, true, false, false, false, false, false, false, false, false, false, false, false, false, false, false, false, false, false, false, false, false, false, false, false, false, false, false, false, false] rfl rfl (take_ofW HT_.out HW_.out (by kernel_rfl)) (fun _ _ _ h => h) (Or.inl ⟨by rfl, ?_⟩) hHeld ?_ ?_
 rotate_left
 ·rintro w' ⟨s0, s1⟩
  go_simp
  with_reducible rfl
 rotate_left
 ·simp only [Act.put, List.setIfInBounds_toArray, List.set_cons_zero, List.set_cons_succ, i64_w, i32_w]
  rfl
 refine one_ (i := 68) (N := some 181) (fl_ 98 70) rfl rfl (one_of HT_.out (by kernel_rfl)) (by decide) (fun K hK => ?_)
 refine gs_ Try.func61 (by kernel_rfl) rfl #[.agg #[.int .i64 t1286, .slice Ao46 t1287.length co46]] (by rfl) rfl rfl ?_
 with_reducible refine (impl_IsTaking.calls k t1286 _ _ t1287 t1326 _ ?side1 ?side2 A34.out).mono ?_
 (case side1 => exact Cl_ (Kd.R_reads' HO1289.out).2.2)
 (case side2 => exact (Kd.R_reads' HO1289.out).2.1)
 rintro e w76 ⟨rfl, hb⟩
 refine ⟨_, rfl, ?_⟩
 replace HO1289 := Aside0.mk (Kd.R_below (Rl_ HO1289.out) hb)
 replace HO1293 := Aside0.mk (Kd.R_below (Rl_ HO1293.out) hb)
 replace HO1297 := Aside0.mk (Kd.R_below (Rl_ HO1297.out) hb)
 replace HO1305 := Aside0.mk (Kd.R_below (Rl_ HO1305.out) hb)
 replace HO1309 := Aside0.mk (Kd.R_below (Rl_ HO1309.out) hb)
 replace BK1290 := blkB_ BK1290 hb
 replace HB := Aside0.mk (below_step (Bl_ HB) hb)
 (try clear hb); (try clear hb2); (try clear hk); (try clear hi); (try clear ho0)
 refine hK.out _ _ ⟨(blk_cell BK1290.out 0).trans rfl, (blk_cell BK1290.out 1).trans rfl⟩ (fun hHeld => ?_)
 clear hK K
 refine norm_ (a' := ?_) ?_ ?_
 rotate_left
 ·show Act.put _ (some 181) _ = _
  simp only [Act.put, List.setIfInBounds_toArray, List.set_cons_zero, List.set_cons_succ, i64_w, i32_w]
  rfl
 refine one_ (i := 70) (N := some 183) (fl_ 98 71) rfl rfl (one_of HT_.out (by kernel_rfl)) (by decide) (fun K hK => ?_)
 refine gs_ Try.func62 (by kernel_rfl) rfl #[.agg #[.int .i64 t1286, .slice Ao46 t1287.length co46]] (by rfl) rfl rfl ?_
 with_reducible refine (spec_IsTaking.calls k t1286 _ _ t1287 t1327 _ ?side1 ?side2 A35.out).mono ?_
 (case side1 => exact Cl_ (Kd.R_reads' HO1289.out).2.2)
 (case side2 => exact (Kd.R_reads' HO1289.out).2.1)
 rintro e w77 ⟨rfl, hb⟩
 refine ⟨_, rfl, ?_⟩
 replace HO1289 := Aside0.mk (Kd.R_below (Rl_ HO1289.out) hb)
 replace HO1293 := Aside0.mk (Kd.R_below (Rl_ HO1293.out) hb)
 replace HO1297 := Aside0.mk (Kd.R_below (Rl_ HO1297.out) hb)
 replace HO1305 := Aside0.mk (Kd.R_below (Rl_ HO1305.out) hb)
 replace HO1309 := Aside0.mk (Kd.R_below (Rl_ HO1309.out) hb)
 replace BK1290 := blkB_ BK1290 hb
 replace HB := Aside0.mk (below_step (Bl_ HB) hb)
 (try clear hb); (try clear hb2); (try clear hk); (try clear hi); (try clear ho0)
 refine hK.out _ _ ⟨(blk_cell BK1290.out 0).trans rfl, (blk_cell BK1290.out 1).trans rfl⟩ (fun hHeld => ?_)
 clear hK K
 refine norm_ (a' := ?_) ?_ ?_
 rotate_left
 ·show Act.put _ (some 183) _ = _
  simp only [Act.put, List.setIfInBounds_toArray, List.set_cons_zero, List.set_cons_succ, i64_w, i32_w]
  rfl
 refine pure_ (i := 71) (N := some 184) (v := ?_) (a' := ?_) (fl_ 98 72) rfl rfl (any_of HT_.out (by kernel_rfl)) (fun _ _ _ h => h) (Or.inl ⟨by rfl, ?_⟩) ?_ ?_
 rotate_left
 ·intro w'
  go_simp
  with_reducible rfl
 rotate_left
 ·simp only [Act.put, List.setIfInBounds_toArray, List.set_cons_zero, List.set_cons_succ, i64_w, i32_w]
  rfl
 refine pure_ (i := 72) (N := some 185) (v := ?_) (a' := ?_) (fl_ 98 73) rfl rfl (any_of HT_.out (by kernel_rfl)) (fun _ _ _ h => h) (Or.inl ⟨by rfl, ?_⟩) ?_ ?_
 rotate_left
 ·intro w'
  go_simp
  with_reducible rfl
 rotate_left
 ·simp only [Act.put, List.setIfInBounds_toArray, List.set_cons_zero, List.set_cons_succ, i64_w, i32_w]
  rfl
 refine pure_ (i := 73) (N := some 186) (v := ?_) (a' := ?_) (fl_ 98 74) rfl rfl (any_of HT_.out (by kernel_rfl)) (fun _ _ _ h => h) (Or.inl ⟨by rfl, ?_⟩) ?_ ?_
 rotate_left
 ·intro w'
  go_simp
  with_reducible rfl
 rotate_left
 ·simp only [Act.put, List.setIfInBounds_toArray, List.set_cons_zero, List.set_cons_succ, i64_w, i32_w]
  rfl
 refine pure_ (i := 74) (N := some 187) (v := ?_) (a' := ?_) (fl_ 98 75) rfl rfl (any_of HT_.out (by kernel_rfl)) (fun _ _ _ h => h) (Or.inl ⟨by rfl, ?_⟩) ?_ ?_
 rotate_left
 ·intro w'
  go_simp
  with_reducible rfl
 rotate_left
 ·simp only [Act.put, List.setIfInBounds_toArray, List.set_cons_zero, List.set_cons_succ, i64_w, i32_w]
  rfl
 refine pure_ (i := 75) (N := some 188) (v := ?_) (a' := ?_) (fl_ 98 76) rfl rfl (any_of HT_.out (by kernel_rfl)) (fun _ _ _ h => h) (Or.inl ⟨by rfl, ?_⟩) ?_ ?_
 rotate_left
 ·intro w'
  go_simp
  with_reducible rfl
 rotate_left
 ·simp only [Act.put, List.setIfInBounds_toArray, List.set_cons_zero, List.set_cons_succ, i64_w, i32_w]
  rfl
 refine pure_ (i := 76) (N := some 189) (v := ?_) (a' := ?_) (fl_ 98 77) rfl rfl (any_of HT_.out (by kernel_rfl)) (fun _ _ _ h => h) (Or.inl ⟨by rfl, ?_⟩) ?_ ?_
 rotate_left
 ·intro w'
  go_simp
  with_reducible rfl
 rotate_left
 ·simp only [Act.put, List.setIfInBounds_toArray, List.set_cons_zero, List.set_cons_succ, i64_w, i32_w]
  rfl
 refine pure_ (i := 77) (N := some 190) (v := ?_) (a' := ?_) (fl_ 98 78) rfl rfl (any_of HT_.out (by kernel_rfl)) (fun _ _ _ h => h) (Or.inl ⟨by rfl, ?_⟩) ?_ ?_
 rotate_left
 ·intro w'
  go_simp
  with_reducible rfl
 rotate_left
 ·simp only [Act.put, List.setIfInBounds_toArray, List.set_cons_zero, List.set_cons_succ, i64_w, i32_w]
  rfl
 refine pure_ (i := 78) (N := some 191) (v := ?_) (a' := ?_) (fl_ 98 79) rfl rfl (any_of HT_.out (by kernel_rfl)) (fun _ _ _ h => h) (Or.inl ⟨by rfl, ?_⟩) ?_ ?_
 rotate_left
 ·intro w'
  go_simp
  with_reducible rfl
 rotate_left
 ·simp only [Act.put, List.setIfInBounds_toArray, List.set_cons_zero, List.set_cons_succ, i64_w, i32_w]
  rfl
 refine pure_ (i := 79) (N := some 192) (v := ?_) (a' := ?_) (fl_ 98 80) rfl rfl (any_of HT_.out (by kernel_rfl)) (fun _ _ _ h => h) (Or.inl ⟨by rfl, ?_⟩) ?_ ?_
 rotate_left
 ·intro w'
  go_simp
  with_reducible rfl
 rotate_left
 ·simp only [Act.put, List.setIfInBounds_toArray, List.set_cons_zero, List.set_cons_succ, i64_w, i32_w]
  rfl
 refine pure_ (i := 80) (N := some 193) (v := ?_) (a' := ?_) (fl_ 98 81) rfl rfl (any_of HT_.out (by kernel_rfl)) (fun _ _ _ h => h) (Or.inl ⟨by rfl, ?_⟩) ?_ ?_
 rotate_left
 ·intro w'
  go_simp
  with_reducible rfl
 rotate_left
 ·simp only [Act.put, List.setIfInBounds_toArray, List.set_cons_zero, List.set_cons_succ, i64_w, i32_w]
  rfl
 refine pure_ (i := 81) (N := some 194) (v := ?_) (a' := ?_) (fl_ 98 82) rfl rfl (any_of HT_.out (by kernel_rfl)) (fun _ _ _ h => h) (Or.inl ⟨by rfl, ?_⟩) ?_ ?_
 rotate_left
 ·intro w'
  go_simp
  with_reducible rfl
 rotate_left
 ·simp only [Act.put, List.setIfInBounds_toArray, List.set_cons_zero, List.set_cons_succ, i64_w, i32_w]
  rfl
 refine pure_ (i := 82) (N := some 195) (v := ?_) (a' := ?_) (fl_ 98 83) rfl rfl (any_of HT_.out (by kernel_rfl)) (fun _ _ _ h => h) (Or.inl ⟨by rfl, ?_⟩) ?_ ?_
 rotate_left
 ·intro w'
  go_simp
  with_reducible rfl
 rotate_left
 ·simp only [Act.put, List.setIfInBounds_toArray, List.set_cons_zero, List.set_cons_succ, i64_w, i32_w]
  rfl
 refine pure_ (i := 83) (N := some 196) (v := ?_) (a' := ?_) (fl_ 98 84) rfl rfl (any_of HT_.out (by kernel_rfl)) (fun _ _ _ h => h) (Or.inl ⟨by rfl, ?_⟩) ?_ ?_
 rotate_left
 ·intro w'
  go_simp
  with_reducible rfl
 rotate_left
 ·simp only [Act.put, List.setIfInBounds_toArray, List.set_cons_zero, List.set_cons_succ, i64_w, i32_w]
  rfl
 refine pure_ (i := 84) (N := some 197) (v := ?_) (a' := ?_) (fl_ 98 85) rfl rfl (any_of HT_.out (by kernel_rfl)) (fun _ _ _ h => h) (Or.inl ⟨by rfl, ?_⟩) ?_ ?_
 rotate_left
 ·intro w'
  go_simp
  with_reducible rfl
 rotate_left
 ·simp only [Act.put, List.setIfInBounds_toArray, List.set_cons_zero, List.set_cons_succ, i64_w, i32_w]
  rfl
 refine pure_ (i := 85) (N := some 198) (v := ?_) (a' := ?_) (fl_ 98 86) rfl rfl (any_of HT_.out (by kernel_rfl)) (fun _ _ _ h => h) (Or.inl ⟨by rfl, ?_⟩) ?_ ?_
 rotate_left
 ·intro w'
  go_simp
  with_reducible rfl
 rotate_left
 ·simp only [Act.put, List.setIfInBounds_toArray, List.set_cons_zero, List.set_cons_succ, i64_w, i32_w]
  rfl
 refine pure_ (i := 86) (N := some 199) (v := ?_) (a' := ?_) (fl_ 98 87) rfl rfl (any_of HT_.out (by kernel_rfl)) (fun _ _ _ h => h) (Or.inl ⟨by rfl, ?_⟩) ?_ ?_
 rotate_left
 ·intro w'
  go_simp
  with_reducible rfl
 rotate_left
 ·simp only [Act.put, List.setIfInBounds_toArray, List.set_cons_zero, List.set_cons_succ, i64_w, i32_w]
  rfl
 refine pure_ (i := 87) (N := some 200) (v := ?_) (a' := ?_) (fl_ 98 88) rfl rfl (any_of HT_.out (by kernel_rfl)) (fun _ _ _ h => h) (Or.inl ⟨by rfl, ?_⟩) ?_ ?_
 rotate_left
 ·intro w'
  go_simp
  with_reducible rfl
 rotate_left
 ·simp only [Act.put, List.setIfInBounds_toArray, List.set_cons_zero, List.set_cons_succ, i64_w, i32_w]
  rfl
 refine pure_ (i := 88) (N := some 201) (v := ?_) (a' := ?_) (fl_ 98 89) rfl rfl (any_of HT_.out (by kernel_rfl)) (fun _ _ _ h => h) (Or.inl ⟨by rfl, ?_⟩) ?_ ?_
 rotate_left
 ·intro w'
  go_simp
  with_reducible rfl
 rotate_left
 ·simp only [Act.put, List.setIfInBounds_toArray, List.set_cons_zero, List.set_cons_succ, i64_w, i32_w]
  rfl
 refine pure_ (i := 89) (N := some 202) (v := ?_) (a' := ?_) (fl_ 98 90) rfl rfl (any_of HT_.out (by kernel_rfl)) (fun _ _ _ h => h) (Or.inl ⟨by rfl, ?_⟩) ?_ ?_
 rotate_left
 ·intro w'
  go_simp
  with_reducible rfl
 rotate_left
 ·simp only [Act.put, List.setIfInBounds_toArray, List.set_cons_zero, List.set_cons_succ, i64_w, i32_w]
  rfl
 refine pure_ (i := 90) (N := some 203) (v := ?_) (a' := ?_) (fl_ 98 91) rfl rfl (any_of HT_.out (by kernel_rfl)) (fun _ _ _ h => h) (Or.inl ⟨by rfl, ?_⟩) ?_ ?_
 rotate_left
 ·intro w'
  go_simp
  with_reducible rfl
 rotate_left
 ·simp only [Act.put, List.setIfInBounds_toArray, List.set_cons_zero, List.set_cons_succ, i64_w, i32_w]
  rfl
 refine pure_ (i := 91) (N := some 204) (v := ?_) (a' := ?_) (fl_ 98 92) rfl rfl (any_of HT_.out (by kernel_rfl)) (fun _ _ _ h => h) (Or.inl ⟨by rfl, ?_⟩) ?_ ?_
 rotate_left
 ·intro w'
  go_simp
  with_reducible rfl
 rotate_left
 ·simp only [Act.put, List.setIfInBounds_toArray, List.set_cons_zero, List.set_cons_succ, i64_w, i32_w]
  rfl
 refine pure_ (i := 92) (N := some 205) (v := ?_) (a' := ?_) (fl_ 98 93) rfl rfl (any_of HT_.out (by kernel_rfl)) (fun _ _ _ h => h) (Or.inl ⟨by rfl, ?_⟩) ?_ ?_
 rotate_left
 ·intro w'
  go_simp
  with_reducible rfl
 rotate_left
 ·simp only [Act.put, List.setIfInBounds_toArray, List.set_cons_zero, List.set_cons_succ, i64_w, i32_w]
  rfl
 refine pure_ (i := 93) (N := some 206) (v := ?_) (a' := ?_) (fl_ 98 94) rfl rfl (any_of HT_.out (by kernel_rfl)) (fun _ _ _ h => h) (Or.inl ⟨by rfl, ?_⟩) ?_ ?_
 rotate_left
 ·intro w'
  go_simp
  with_reducible rfl
 rotate_left
 ·simp only [Act.put, List.setIfInBounds_toArray, List.set_cons_zero, List.set_cons_succ, i64_w, i32_w]
  rfl
 refine pure_ (i := 94) (N := some 207) (v := ?_) (a' := ?_) (fl_ 98 95) rfl rfl (any_of HT_.out (by kernel_rfl)) (fun _ _ _ h => h) (Or.inl ⟨by rfl, ?_⟩) ?_ ?_
 rotate_left
 ·intro w'
  go_simp
  with_reducible rfl
 rotate_left
 ·simp only [Act.put, List.setIfInBounds_toArray, List.set_cons_zero, List.set_cons_succ, i64_w, i32_w]
  rfl
 refine pure_ (i := 95) (N := some 208) (v := ?_) (a' := ?_) (fl_ 98 96) rfl rfl (any_of HT_.out (by kernel_rfl)) (fun _ _ _ h => h) (Or.inl ⟨by rfl, ?_⟩) ?_ ?_
 rotate_left
 ·intro w'
  go_simp
  with_reducible rfl
 rotate_left
 ·simp only [Act.put, List.setIfInBounds_toArray, List.set_cons_zero, List.set_cons_succ, i64_w, i32_w]
  rfl
 refine pure_ (i := 96) (N := some 209) (v := ?_) (a' := ?_) (fl_ 98 97) rfl rfl (any_of HT_.out (by kernel_rfl)) (fun _ _ _ h => h) (Or.inl ⟨by rfl, ?_⟩) ?_ ?_
 rotate_left
 ·intro w'
  go_simp
  with_reducible rfl
 rotate_left
 ·simp only [Act.put, List.setIfInBounds_toArray, List.set_cons_zero, List.set_cons_succ, i64_w, i32_w]
  rfl
 refine pure_ (i := 97) (N := some 210) (v := ?_) (a' := ?_) (fl_ 98 98) rfl rfl (any_of HT_.out (by kernel_rfl)) (fun _ _ _ h => h) (Or.inl ⟨by rfl, ?_⟩) ?_ ?_
 rotate_left
 ·intro w'
  go_simp
  with_reducible rfl
 rotate_left
 ·simp only [Act.put, List.setIfInBounds_toArray, List.set_cons_zero, List.set_cons_succ, i64_w, i32_w]
  rfl
 refine done_ (done_of HT_.out (by kernel_rfl)) ?_
 go_upto_if 211 with (fail)
 go_cut [] (fun wc => ∃ (kq : Nat), Aside0 (laws_FnTakesPlayed.j1 kq l1 = some r) ∧ Aside0 (kq ≤ k) ∧ Aside0 (Below w.heap.size w wc))
 case first =>
  as_aux_lemma =>
   have H := HC42.out
   clear HC42
   by_cases c78 : t1294 = true
   ·subst c78
    rw [if_pos rfl] at H
    replace H := Option.bind_eq_some_iff.mp H
    obtain ⟨⟨t1328, t1329, t1332⟩, A790, H⟩ := H
    (try dsimp only at H)
    have A79 := Aside0.mk A790
    clear A790
    by_cases c80 : (t1291.length : Int) = t1311
    rotate_left
    ·rw [if_neg c80] at H
     exact absurd H (by simp)
    rw [if_pos c80] at H
    have c80b0 : ((t1291.length : Int) == t1311) = true := beq_iff_eq.mpr c80
    have c80b1 : ((t1291.length : Int) != t1311) = false := bne_eq_false_iff_eq.mpr c80
    clear c80
    (first | rw [c80b0] | (simp only [i64_w, i32_w]; rw [c80b0]) | skip)
    by_cases c81 : (t1299 != ((Int.tmod t1311 2) == 1)) = true
    ·rw [if_pos c81] at H
     exact absurd H (by simp)
    rw [if_neg c81] at H
    have c81b0 : (t1299 != ((Int.tmod t1311 2) == 1)) = false := by simpa using c81
    (try (have c81b1 : decide (t1299 = ((Int.tmod t1311 2) == 1)) = true := by simpa using c81))
    (try (have c81b2 : (t1299 == ((Int.tmod t1311 2) == 1)) = true := by simpa using c81))
    clear c81
    by_cases c82 : (t1299 != (decide ((t1303.length : Int) > 0))) = true
    ·rw [if_pos c82] at H
     exact absurd H (by simp)
    rw [if_neg c82] at H
    have c82b0 : (t1299 != (decide ((t1303.length : Int) > 0))) = false := by simpa using c82
    (try (have c82b1 : decide (t1299 = (decide ((t1303.length : Int) > 0))) = true := by simpa using c82))
    (try (have c82b2 : (t1299 == (decide ((t1303.length : Int) > 0))) = true := by simpa using c82))
    clear c82
    by_cases c83 : t1299 = true
    ·as_aux_lemma =>
     subst c83
     (try (have c82q : decide (0 < t1303.length) = true := by simpa using c82b0))
     rw [if_pos rfl] at H
     by_cases c84 : 0 < (t1291.length : Int)
     rotate_left
     ·rw [if_neg c84] at H
      exact absurd H (by simp)
     rw [if_pos c84] at H
     have c84b0 : decide (0 < (t1291.length : Int)) = true := decide_eq_true c84
     have c84b1 : decide (0 < t1291.length) = true := decide_eq_true (by omega)
     clear c84
     replace H := Option.bind_eq_some_iff.mp H
     obtain ⟨t1335, A850, H⟩ := H
     (try dsimp only at H)
     have A85 := Aside0.mk A850
     clear A850
     by_cases c86 : t1335 = true
     rotate_left
     ·replace c86 := Bool.eq_false_iff.mpr c86
      subst c86
      rw [if_neg (show ¬ (false = true) by decide)] at H
      exact absurd H (by simp)
     subst c86
     rw [if_pos rfl] at H
     by_cases c87 : t1332 = true
     rotate_left
     ·replace c87 := Bool.eq_false_iff.mpr c87
      subst c87
      rw [if_neg (show ¬ (false = true) by decide)] at H
      exact absurd H (by simp)
     subst c87
     rw [if_pos rfl] at H
     replace H := Option.bind_eq_some_iff.mp H
     obtain ⟨t1336, A880, H⟩ := H
     (try dsimp only at H)
     have A88 := Aside0.mk A880
     clear A880
     by_cases c89 : t1336 = true
     ·subst c89
      rw [if_pos rfl] at H
      exact absurd H (by simp)
     replace c89 := Bool.eq_false_iff.mpr c89
     subst c89
     rw [if_neg (show ¬ (false = true) by decide)] at H
     by_cases c90 : t1311 < t1319
     ·rw [if_pos c90] at H
      exact absurd H (by simp)
     rw [if_neg c90] at H
     have c90b0 : decide (t1311 < t1319) = false := decide_eq_false c90
     clear c90
     by_cases c91 : t1319 < 1
     ·rw [if_pos c91] at H
      exact absurd H (by simp)
     rw [if_neg c91] at H
     have c91b0 : decide (t1319 < 1) = false := decide_eq_false c91
     clear c91
     by_cases c92 : t1315 < 1
     ·rw [if_pos c92] at H
      exact absurd H (by simp)
     rw [if_neg c92] at H
     have c92b0 : decide (t1315 < 1) = false := decide_eq_false c92
     clear c92
     have H' := Aside0.mk H
     clear H
     have hcz93_0 : w77.cell? ⟨gb1290, 0, none⟩ = some (.int .i64 t1286) := (blk_cell BK1290.out 0).trans rfl
     have hcz93_1 : w77.cell? ⟨gb1290, 1, none⟩ = some (.slice Ao46 t1287.length co46) := (blk_cell BK1290.out 1).trans rfl
     have hfz93_0 := blk_frozen BK1290.out 0
     have hfz93_1 := blk_frozen BK1290.out 1
     go_wp2_with (first | ((with_reducible refine gate_callee (f := 63) rfl ?_); refine gl_ (some 215) rfl rfl Try.func63 (by kernel_rfl) rfl #[.agg #[.int .i64 t1286, .slice Ao46 t1287.length co46], .slice Ao71 t1291.length co71] rfl ?_; (with_reducible refine (impl_PlayTakes.calls k t1286 _ _ t1287 _ _ t1291 t1328 t1329 true _ ?side1 ?side2 ?side3 ?side4 A79.out).mono ?_); (case side1 => exact Cl_ (Kd.R_reads' HO1289.out).2.2); (case side2 => exact (Kd.R_reads' HO1289.out).2.1); (case side3 => exact Cl_ (Kd.R_reads' HO1293.out).2.2); (case side4 => exact (Kd.R_reads' HO1293.out).2.1); rintro e w94 ⟨v1330, rfl, ho0, hb⟩; refine ⟨_, rfl, ?_⟩; have HO1331 := Aside0.mk (Kd.R_lower (Kd.R_new' (Kd.R_new' (Kd.R_new' (Kd.R_new' (Kd.R_new' ho0 (Kd.R_lt (Rl_ HO1289.out))) (Kd.R_lt (Rl_ HO1293.out))) (Kd.R_lt (Rl_ HO1297.out))) (Kd.R_lt (Rl_ HO1305.out))) (Kd.R_lt (Rl_ HO1309.out))) (below_size (Bl_ HB))); replace HO1289 := Aside0.mk (Kd.R_elder' (Rl_ HO1289.out) (Kd.R_base ho0) hb); replace HO1293 := Aside0.mk (Kd.R_elder' (Rl_ HO1293.out) (Kd.R_base ho0) hb); replace HO1297 := Aside0.mk (Kd.R_elder' (Rl_ HO1297.out) (Kd.R_base ho0) hb); replace HO1305 := Aside0.mk (Kd.R_elder' (Rl_ HO1305.out) (Kd.R_base ho0) hb); replace HO1309 := Aside0.mk (Kd.R_elder' (Rl_ HO1309.out) (Kd.R_base ho0) hb); replace BK1290 := blkB_ BK1290 hb; replace HB := Aside0.mk (below_step (Bl_ HB) hb); (try clear hb); (try clear hb2); (try clear hk); (try clear hi); (try clear ho0)) | ((with_reducible refine gate_dst (N := 30) rfl ?_); (try (refine gate_guard (by rfl) ?_; dsimp only)); refine box_event ?hg (N := 30) ?hd (cs := #[.int .i64 0, .slice none 0 0]) (t := 26) ?hr ?_; (case hd => rfl); (case hg => rfl); (case hr => first | (go_simp; done) | (go_simp; rfl)); intro gb1333 hg w95 hbox hb; replace HO1289 := Aside0.mk (Kd.R_below (Rl_ HO1289.out) hb); replace HO1293 := Aside0.mk (Kd.R_below (Rl_ HO1293.out) hb); replace HO1297 := Aside0.mk (Kd.R_below (Rl_ HO1297.out) hb); replace HO1305 := Aside0.mk (Kd.R_below (Rl_ HO1305.out) hb); replace HO1309 := Aside0.mk (Kd.R_below (Rl_ HO1309.out) hb); replace HO1331 := Aside0.mk (Kd.R_below (Rl_ HO1331.out) hb); have BK1333 := Aside0.mk (hbox); have GW1333 := Aside0.mk ((by rw [hg]; exact (below_size (Bl_ HB)) : w.heap.size ≤ gb1333)); have GE1333 := Aside0.mk ((by rw [hg]; exact (below_size (Bl_ HB)) : w.heap.size ≤ gb1333)); replace HB := Aside0.mk (below_step (Bl_ HB) hb); have NB1290_1333 := nbl_ BK1290 hg; have NB1333_1290 := nbg_ BK1290 hg; replace BK1290 := blkB_ BK1290 hb; clear hb hbox hg; have hnb96 := NB1333_1290.out; have hnc96 := NB1290_1333.out; have hcz97_0 : w95.cell? ⟨gb1333, 0, none⟩ = some (.int .i64 0) := (blk_cell BK1333.out 0).trans rfl; have hcz97_1 : w95.cell? ⟨gb1333, 1, none⟩ = some (.slice none 0 0) := (blk_cell BK1333.out 1).trans rfl; have hfz97_0 := blk_frozen BK1333.out 0; have hfz97_1 := blk_frozen BK1333.out 1; obtain ⟨Ao98, co98, eo98⟩ := Kd.R_slice HO1331.out; subst eo98; have p1334 : 0 ≤ (0 : Int) := (by omega); have q1334 : 0 < (t1291.length : Int) := of_decide_eq_true (by first | (with_reducible assumption) | assumption); obtain ⟨ad1334, e1334, hx1334_0⟩ := Kd.at_int (Kd.R_reads' HO1293.out).2.2 0 p1334 q1334; cases e1334; have qi1334 : (0 < t1291.length) = True := eq_true (by omega); (try rw [show ((0 : Int)).toNat = 0 from rfl] at hx1334_0); (try rw [Addr.add_zero'] at hx1334_0); have hn1334_0 : ad1334.block ≠ gb1333 := Kd.own_blk (Kd.R_ne HO1293.out BK1333.out (by decide)); have hn1334_1 : ad1334.block ≠ gb1333 := Kd.own_blk (Kd.R_ne HO1293.out BK1333.out (by decide)); replace hx1334_0 := (cell_far (p := ⟨gb1333, 0, none⟩) (by first | (rw [add_block]; exact hn1334_0) | (show (Addr.add _ _).block ≠ _; rw [add_block]; exact hn1334_0) | exact hn1334_0) (.int .i64 t1328)).trans hx1334_0; replace hx1334_0 := (cell_far (p := ⟨gb1333, 1, none⟩) (by first | (rw [add_block]; exact hn1334_1) | (show (Addr.add _ _).block ≠ _; rw [add_block]; exact hn1334_1) | exact hn1334_1) (.slice Ao98 t1329.length co98)).trans hx1334_0; clear hn1334_0; clear hn1334_1; replace p1334 := eq_true p1334; replace q1334 := eq_true q1334) | (go_at_call 40; (with_reducible refine (laws_nHas.calls k _ _ t1303 (rd t1291 0) true _ ?side1 ?side2 A85.out).mono ?_); (case side1 => refine (Kd.R_reads' (e := 3) (base := w.heap.size) (ok := fun k_ => (((((True ∧ some k_ ≠ (.slice Ao46 t1287.length co46 : Value).ownBlock) ∧ some k_ ≠ (.slice (some ad1334) t1291.length co71 : Value).ownBlock) ∧ some k_ ≠ (.slice Ao72 t1295.length co72 : Value).ownBlock) ∧ some k_ ≠ (.slice Ao74 t1307.length co74 : Value).ownBlock) ∧ some k_ ≠ (.slice Ao98 t1329.length co98 : Value).ownBlock)) (n := t1303.length) (c := co73) ?_).2.2; exact (Rl_ (Rf2_ HO1305.out BK1333.out (by decide) (.int .i64 t1328) (.slice Ao98 t1329.length co98)))); (case side2 => exact (Kd.R_reads' HO1305.out).2.1); rintro e w' ⟨rfl, ⟨nd, rfl⟩⟩) | (go_at_call 61; (with_reducible refine (impl_IsTaking.calls k t1328 _ _ t1329 false _ ?side1 ?side2 A88.out).mono ?_); (case side1 => refine (Kd.R_reads' (e := 3) (base := w.heap.size) (ok := fun k_ => (((((True ∧ some k_ ≠ (.slice Ao46 t1287.length co46 : Value).ownBlock) ∧ some k_ ≠ (.slice (some ad1334) t1291.length co71 : Value).ownBlock) ∧ some k_ ≠ (.slice Ao72 t1295.length co72 : Value).ownBlock) ∧ some k_ ≠ (.slice Ao73 t1303.length co73 : Value).ownBlock) ∧ some k_ ≠ (.slice Ao74 t1307.length co74 : Value).ownBlock)) (n := t1329.length) (c := co98) ?_).2.2; exact (Rl_ (Rf2_ HO1331.out BK1333.out (by decide) (.int .i64 t1328) (.slice Ao98 t1329.length co98)))); (case side2 => exact (Kd.R_reads' HO1331.out).2.1); rintro e w99 ⟨rfl, hb⟩; replace HO1289 := Aside0.mk (Kd.R_below (Rl_ (Rf2_ HO1289.out BK1333.out (by decide) (.int .i64 t1328) (.slice Ao98 t1329.length co98))) hb); replace HO1293 := Aside0.mk (Kd.R_below (Rl_ (Rf2_ HO1293.out BK1333.out (by decide) (.int .i64 t1328) (.slice Ao98 t1329.length co98))) hb); replace HO1297 := Aside0.mk (Kd.R_below (Rl_ (Rf2_ HO1297.out BK1333.out (by decide) (.int .i64 t1328) (.slice Ao98 t1329.length co98))) hb); replace HO1305 := Aside0.mk (Kd.R_below (Rl_ (Rf2_ HO1305.out BK1333.out (by decide) (.int .i64 t1328) (.slice Ao98 t1329.length co98))) hb); replace HO1309 := Aside0.mk (Kd.R_below (Rl_ (Rf2_ HO1309.out BK1333.out (by decide) (.int .i64 t1328) (.slice Ao98 t1329.length co98))) hb); replace HO1331 := Aside0.mk (Kd.R_below (Rl_ (Rf2_ HO1331.out BK1333.out (by decide) (.int .i64 t1328) (.slice Ao98 t1329.length co98))) hb); replace BK1290 := blkF_ BK1290 NB1290_1333 hb; replace BK1333 := Aside0.mk (blk_below (g := gb1333) (o := .cells #[.int .i64 t1328, .slice Ao98 t1329.length co98] 26 (0, 0)) (by (with_reducible repeat (first | refine blk_drewN ?_ _ | refine blk_drew ?_ | refine blk_alloc ?_ _)); refine blk_put (cs := #[.int .i64 t1328, .slice none 0 0]) ?_ 1 _ rfl; (with_reducible repeat (first | refine blk_drewN ?_ _ | refine blk_drew ?_ | refine blk_alloc ?_ _)); refine blk_put (cs := #[.int .i64 0, .slice none 0 0]) ?_ 0 _ rfl; (with_reducible repeat (first | refine blk_drewN ?_ _ | refine blk_drew ?_ | refine blk_alloc ?_ _)); exact BK1333.out) hb); replace HB := Aside0.mk (below_step (Bl_ HB) hb); (try clear hb); (try clear hb2); (try clear hk); (try clear hi)))
     go_loopg [270] k (fun kq v270 w' => ∃ (x270_1 : Int), v270 = .int .i64 x270_1 ∧ Aside0 (laws_FnTakesPlayed.l0 kq l1 t1291 t1311 t1303 (t1303.length : Int) x270_1 t1286 t1287 = some r) ∧ Aside0 (kq ≤ k) ∧ Aside0 (Kd.R (Kd.int .i64) 3 w' w.heap.size (fun k_ => some k_ ≠ ((.slice Ao73 t1303.length co73) : Value).ownBlock ∧ some k_ ≠ ((.slice Ao46 t1287.length co46) : Value).ownBlock) (.slice (some ad1334) t1291.length co71) t1291) ∧ Aside0 (Kd.R (Kd.int .i64) 3 w' w.heap.size (fun k_ => some k_ ≠ ((.slice (some ad1334) t1291.length co71) : Value).ownBlock ∧ some k_ ≠ ((.slice Ao46 t1287.length co46) : Value).ownBlock) (.slice Ao73 t1303.length co73) t1303) ∧ Aside0 (Kd.R (Kd.int .i64) 3 w' w.heap.size (fun k_ => some k_ ≠ ((.slice (some ad1334) t1291.length co71) : Value).ownBlock ∧ some k_ ≠ ((.slice Ao73 t1303.length co73) : Value).ownBlock) (.slice Ao46 t1287.length co46) t1287) ∧ Aside0 (w'.heap[gb1290]? = some (.cells #[.int .i64 t1286, (.slice Ao46 t1287.length co46)] 26 (0, 0))) ∧ Aside0 (Below w.heap.size w w'))
     case atStart => exact ⟨(0), (by first | rfl | (simp; done) | (simp [*]; done)), H', ⟨Nat.le_refl _⟩, ⟨Rl_ (Kd.R_mono HO1293.out (fun _ hk => ⟨hk.1.1.2, hk.1.1.1.1.2⟩))⟩, ⟨Rl_ (Kd.R_mono HO1305.out (fun _ hk => ⟨hk.1.1.1.2, hk.1.1.1.1.2⟩))⟩, ⟨Rl_ (Kd.R_mono HO1289.out (fun _ hk => ⟨hk.1.1.1.1.2, hk.1.1.2⟩))⟩, ⟨bl_ BK1290⟩, ⟨Bl_ HB⟩⟩
     case round =>
      as_aux_lemma =>
       clear H'
       try clear p1
       try clear q1
       try clear hx1
       try clear qi1
       try clear p2
       try clear c6
       try clear c7
       try clear c8
       try clear c9
       try clear p13
       try clear q13
       try clear hx13
       try clear qi13
       try clear c61
       try clear c62
       try clear c63
       try clear c78
       try clear c80
       try clear c80b0
       try clear c80b1
       try clear c81
       try clear c81b0
       try clear c81b1
       try clear c81b2
       try clear c82
       try clear c82b0
       try clear c82b1
       try clear c82b2
       try clear c83
       try clear c84
       try clear c84b0
       try clear c84b1
       try clear c86
       try clear c87
       try clear c89
       try clear c90
       try clear c90b0
       try clear c91
       try clear c91b0
       try clear c92
       try clear c92b0
       try clear c96
       try clear hcz93_0
       try clear hcz93_1
       try clear hcz97_0
       try clear hcz97_1
       try clear hfz93_0
       try clear hfz93_1
       try clear hfz97_0
       try clear hfz97_1
       try clear hx1334_0
       try clear p1334
       try clear q1334
       obtain ⟨x270_1, rfl, HA, HK1, HO_6, HO_268, HO_1291001, BK1290, HB⟩ := hrel
       cases gk with
       | zero => exact absurd HA.out (by simp [laws_FnTakesPlayed.l0])
       | succ k1 =>
        have H := HA.out
        clear HA
        simp only [laws_FnTakesPlayed.l0] at H
        by_cases c100 : x270_1 < (t1303.length : Int)
        ·rw [if_pos c100] at H
         have c100b0 : decide (x270_1 < (t1303.length : Int)) = true := decide_eq_true c100
         clear c100
         by_cases c101 : 0 ≤ x270_1
         rotate_left
         ·rw [if_neg c101] at H
          exact absurd H (by simp)
         rw [if_pos c101] at H
         have c101b0 : decide (0 ≤ x270_1) = true := decide_eq_true c101
         clear c101
         by_cases c102 : x270_1 < (t1303.length : Int)
         rotate_left
         ·rw [if_neg c102] at H
          exact absurd H (by simp)
         rw [if_pos c102] at H
         have c102b0 : decide (x270_1 < (t1303.length : Int)) = true := decide_eq_true c102
         clear c102
         obtain ⟨y1339, hy1339⟩ : ∃ y_ : List Int, y_ = (([rd t1303 x270_1] : List Int)) := ⟨_, rfl⟩
         replace H : ((impl_PlayTakes.f k1 t1286 t1287 y1339).bind fun bt1342 => (if bt1342.2.2 = true then ((impl_IsTaking.f k1 bt1342.1 bt1342.2.1).bind fun t1348 => (if t1348 = true then ((impl_TakeWinner.f k1 bt1342.1 bt1342.2.1).bind fun bt1349 => (if bt1349.2 = true then (if bt1349.1 = true then (none) else (laws_FnTakesPlayed.l0 k1 l1 t1291 t1311 t1303 (t1303.length : Int) (wrap64 (x270_1 + 1)) t1286 t1287)) else (none))) else (laws_FnTakesPlayed.l0 k1 l1 t1291 t1311 t1303 (t1303.length : Int) (wrap64 (x270_1 + 1)) t1286 t1287))) else (none))) = some r := by first | (rw [hy1339]; with_reducible exact H) | (have H2_ := (Option.bind_some _ _).symm.trans H; rw [hy1339]; with_reducible exact H2_) | (have H2_ := (Option.bind_some _ _).symm.trans H; with_reducible exact H2_) | with_reducible exact H | (rw [hy1339]; exact H) | exact H
         have Ny1339 := Aside0.mk hy1339
         clear hy1339
         replace H := Option.bind_eq_some_iff.mp H
         obtain ⟨⟨t1342, t1343, t1346⟩, A1030, H⟩ := H
         (try dsimp only at H)
         have A103 := Aside0.mk A1030
         clear A1030
         by_cases c104 : t1346 = true
         rotate_left
         ·replace c104 := Bool.eq_false_iff.mpr c104
          subst c104
          rw [if_neg (show ¬ (false = true) by decide)] at H
          exact absurd H (by simp)
         subst c104
         rw [if_pos rfl] at H
         replace H := Option.bind_eq_some_iff.mp H
         obtain ⟨t1348, A1050, H⟩ := H
         (try dsimp only at H)
         have A105 := Aside0.mk A1050
         clear A1050
         by_cases c106 : t1348 = true
         ·subst c106
          rw [if_pos rfl] at H
          replace H := Option.bind_eq_some_iff.mp H
          obtain ⟨⟨t1349, t1350⟩, A1070, H⟩ := H
          (try dsimp only at H)
          have A107 := Aside0.mk A1070
          clear A1070
          by_cases c108 : t1350 = true
          rotate_left
          ·replace c108 := Bool.eq_false_iff.mpr c108
           subst c108
           rw [if_neg (show ¬ (false = true) by decide)] at H
           exact absurd H (by simp)
          subst c108
          rw [if_pos rfl] at H
          by_cases c109 : t1349 = true
          ·subst c109
           rw [if_pos rfl] at H
           exact absurd H (by simp)
          replace c109 := Bool.eq_false_iff.mpr c109
          subst c109
          rw [if_neg (show ¬ (false = true) by decide)] at H
          have H' := Aside0.mk H
          clear H
          have p1338 : 0 ≤ (x270_1 : Int) := of_decide_eq_true (by first | (with_reducible assumption) | assumption)
          have q1338 : x270_1 < (t1303.length : Int) := of_decide_eq_true (by first | (with_reducible assumption) | assumption)
          obtain ⟨ad1338, e1338, hx1338_0⟩ := Kd.at_int (Kd.R_reads' HO_268.out).2.2 x270_1 p1338 q1338
          cases e1338
          replace p1338 := eq_true p1338
          replace q1338 := eq_true q1338
          have hcz110_0 : wr.cell? ⟨gb1290, 0, none⟩ = some (.int .i64 t1286) := (blk_cell BK1290.out 0).trans rfl
          have hcz110_1 : wr.cell? ⟨gb1290, 1, none⟩ = some (.slice Ao46 t1287.length co46) := (blk_cell BK1290.out 1).trans rfl
          have hfz110_0 := blk_frozen BK1290.out 0
          have hfz110_1 := blk_frozen BK1290.out 1
          go_wp2_with (first | ((with_reducible refine gate_dst (N := 277) rfl ?_); (try (refine gate_guard (by rfl) ?_; dsimp only)); refine Kd.R_lit (Kd.int .i64) _ 3 ?hg (N := 277) ?hd (xs := ([rd t1303 x270_1] : List Int)) (inner := [.int .i64 (rd t1303 x270_1)]) (ok := fun _ => True) (okp := fun _ => True) ?hr ?hp (fun _ hk => hk) trivial (Below.refl _ _) (Nat.le_refl _) (by simp) ?_; (case hd => rfl); (case hg => rfl); (case hr => first | (go_simp; done) | (go_simp; rfl)); (case hp => exact (Reps.one (show Kd.M (Kd.int .i64) _ _ _ (rd t1303 x270_1) [.int .i64 (rd t1303 x270_1)] from rfl) (Reps.none _ _))); intro v1340 w111 ho112 hb hg_ hnew_; clear hg_ hnew_; (first | rw [← Ny1339.out] at ho112 | (simp only [Int.reduceToNat] at ho112; rw [← Ny1339.out] at ho112)); have HO1341 := Aside0.mk (Kd.R_lower (Kd.R_new' (Kd.R_new' (Kd.R_new' ho112 (Kd.R_lt (Rl_ HO_6.out))) (Kd.R_lt (Rl_ HO_268.out))) (Kd.R_lt (Rl_ HO_1291001.out))) (below_size (Bl_ HB))); replace HO_6 := Aside0.mk (Kd.R_elder' (Rl_ HO_6.out) (Kd.R_base ho112) hb); replace HO_268 := Aside0.mk (Kd.R_elder' (Rl_ HO_268.out) (Kd.R_base ho112) hb); replace HO_1291001 := Aside0.mk (Kd.R_elder' (Rl_ HO_1291001.out) (Kd.R_base ho112) hb); replace BK1290 := blkB_ BK1290 hb; replace HB := Aside0.mk (below_step (Bl_ HB) hb); clear hb ho112; obtain ⟨Ao113, co113, eo113⟩ := Kd.R_slice HO1341.out; subst eo113) | ((with_reducible refine gate_callee (f := 63) rfl ?_); refine gl_ (some 278) rfl rfl Try.func63 (by kernel_rfl) rfl #[.agg #[.int .i64 t1286, .slice Ao46 t1287.length co46], .slice Ao113 y1339.length co113] rfl ?_; (with_reducible refine (impl_PlayTakes.calls k1 t1286 _ _ t1287 _ _ y1339 t1342 t1343 true _ ?side1 ?side2 ?side3 ?side4 A103.out).mono ?_); (case side1 => exact Cl_ (Kd.R_reads' HO_1291001.out).2.2); (case side2 => exact (Kd.R_reads' HO_1291001.out).2.1); (case side3 => exact Cl_ (Kd.R_reads' HO1341.out).2.2); (case side4 => exact (Kd.R_reads' HO1341.out).2.1); rintro e w114 ⟨v1344, rfl, ho0, hb⟩; refine ⟨_, rfl, ?_⟩; have HO1345 := Aside0.mk (Kd.R_lower (Kd.R_new' (Kd.R_new' (Kd.R_new' (Kd.R_new' ho0 (Kd.R_lt (Rl_ HO_6.out))) (Kd.R_lt (Rl_ HO_268.out))) (Kd.R_lt (Rl_ HO_1291001.out))) (Kd.R_lt (Rl_ HO1341.out))) (below_size (Bl_ HB))); replace HO_6 := Aside0.mk (Kd.R_elder' (Rl_ HO_6.out) (Kd.R_base ho0) hb); replace HO_268 := Aside0.mk (Kd.R_elder' (Rl_ HO_268.out) (Kd.R_base ho0) hb); replace HO_1291001 := Aside0.mk (Kd.R_elder' (Rl_ HO_1291001.out) (Kd.R_base ho0) hb); replace HO1341 := Aside0.mk (Kd.R_elder' (Rl_ HO1341.out) (Kd.R_base ho0) hb); replace BK1290 := blkB_ BK1290 hb; replace HB := Aside0.mk (below_step (Bl_ HB) hb); (try clear hb); (try clear hb2); (try clear hk); (try clear hi); (try clear ho0)) | ((with_reducible refine gate_dst (N := 34) rfl ?_); (try (refine gate_guard (by rfl) ?_; dsimp only)); refine box_event ?hg (N := 34) ?hd (cs := #[.int .i64 0, .slice none 0 0]) (t := 26) ?hr ?_; (case hd => rfl); (case hg => rfl); (case hr => first | (go_simp; done) | (go_simp; rfl)); intro gb1347 hg w115 hbox hb; replace HO_6 := Aside0.mk (Kd.R_below (Rl_ HO_6.out) hb); replace HO_268 := Aside0.mk (Kd.R_below (Rl_ HO_268.out) hb); replace HO_1291001 := Aside0.mk (Kd.R_below (Rl_ HO_1291001.out) hb); replace HO1341 := Aside0.mk (Kd.R_below (Rl_ HO1341.out) hb); replace HO1345 := Aside0.mk (Kd.R_below (Rl_ HO1345.out) hb); have BK1347 := Aside0.mk (hbox); have GW1347 := Aside0.mk ((by rw [hg]; exact (below_size (Bl_ HB)) : w.heap.size ≤ gb1347)); have GE1347 := Aside0.mk ((by rw [hg]; exact (below_size (Bl_ HB)) : w.heap.size ≤ gb1347)); replace HB := Aside0.mk (below_step (Bl_ HB) hb); have NB1290_1347 := nbl_ BK1290 hg; have NB1347_1290 := nbg_ BK1290 hg; replace BK1290 := blkB_ BK1290 hb; clear hb hbox hg; have hnb116 := NB1347_1290.out; have hnc116 := NB1290_1347.out; have hcz117_0 : w115.cell? ⟨gb1347, 0, none⟩ = some (.int .i64 0) := (blk_cell BK1347.out 0).trans rfl; have hcz117_1 : w115.cell? ⟨gb1347, 1, none⟩ = some (.slice none 0 0) := (blk_cell BK1347.out 1).trans rfl; have hfz117_0 := blk_frozen BK1347.out 0; have hfz117_1 := blk_frozen BK1347.out 1; obtain ⟨Ao118, co118, eo118⟩ := Kd.R_slice HO1345.out; subst eo118) | ((with_reducible refine gate_callee (f := 61) rfl ?_); refine gl_ (some 284) rfl rfl Try.func61 (by kernel_rfl) rfl #[.agg #[.int .i64 t1342, .slice Ao118 t1343.length co118]] rfl ?_; (with_reducible refine (impl_IsTaking.calls k1 t1342 _ _ t1343 true _ ?side1 ?side2 A105.out).mono ?_); (case side1 => refine (Kd.R_reads' (e := 3) (base := w.heap.size) (ok := fun k_ => ((((True ∧ some k_ ≠ (.slice (some ad1334) t1291.length co71 : Value).ownBlock) ∧ some k_ ≠ (.slice (some ad1338) t1303.length co73 : Value).ownBlock) ∧ some k_ ≠ (.slice Ao46 t1287.length co46 : Value).ownBlock) ∧ some k_ ≠ (.slice Ao113 y1339.length co113 : Value).ownBlock)) (n := t1343.length) (c := co118) ?_).2.2; exact (Rl_ (Rf2_ HO1345.out BK1347.out (by decide) (.int .i64 t1342) (.slice Ao118 t1343.length co118)))); (case side2 => exact (Kd.R_reads' HO1345.out).2.1); rintro e w119 ⟨rfl, hb⟩; refine ⟨_, rfl, ?_⟩; replace HO_6 := Aside0.mk (Kd.R_below (Rl_ (Rf2_ HO_6.out BK1347.out (by decide) (.int .i64 t1342) (.slice Ao118 t1343.length co118))) hb); replace HO_268 := Aside0.mk (Kd.R_below (Rl_ (Rf2_ HO_268.out BK1347.out (by decide) (.int .i64 t1342) (.slice Ao118 t1343.length co118))) hb); replace HO_1291001 := Aside0.mk (Kd.R_below (Rl_ (Rf2_ HO_1291001.out BK1347.out (by decide) (.int .i64 t1342) (.slice Ao118 t1343.length co118))) hb); replace HO1341 := Aside0.mk (Kd.R_below (Rl_ (Rf2_ HO1341.out BK1347.out (by decide) (.int .i64 t1342) (.slice Ao118 t1343.length co118))) hb); replace HO1345 := Aside0.mk (Kd.R_below (Rl_ (Rf2_ HO1345.out BK1347.out (by decide) (.int .i64 t1342) (.slice Ao118 t1343.length co118))) hb); replace BK1290 := blkF_ BK1290 NB1290_1347 hb; replace BK1347 := Aside0.mk (blk_below (g := gb1347) (o := .cells #[.int .i64 t1342, .slice Ao118 t1343.length co118] 26 (0, 0)) (by (with_reducible repeat (first | refine blk_drewN ?_ _ | refine blk_drew ?_ | refine blk_alloc ?_ _)); refine blk_put (cs := #[.int .i64 t1342, .slice none 0 0]) ?_ 1 _ rfl; (with_reducible repeat (first | refine blk_drewN ?_ _ | refine blk_drew ?_ | refine blk_alloc ?_ _)); refine blk_put (cs := #[.int .i64 0, .slice none 0 0]) ?_ 0 _ rfl; (with_reducible repeat (first | refine blk_drewN ?_ _ | refine blk_drew ?_ | refine blk_alloc ?_ _)); exact BK1347.out) hb); replace HB := Aside0.mk (below_step (Bl_ HB) hb); (try clear hb); (try clear hb2); (try clear hk); (try clear hi); have hcz120_0 : w119.cell? ⟨gb1347, 0, none⟩ = some (.int .i64 t1342) := (blk_cell BK1347.out 0).trans rfl; have hcz120_1 : w119.cell? ⟨gb1347, 1, none⟩ = some (.slice Ao118 t1343.length co118) := (blk_cell BK1347.out 1).trans rfl; have hfz120_0 := blk_frozen BK1347.out 0; have hfz120_1 := blk_frozen BK1347.out 1) | ((with_reducible refine gate_callee (f := 51) rfl ?_); refine gl_ (some 287) rfl rfl Try.func51 (by kernel_rfl) rfl #[.agg #[.int .i64 t1342, .slice Ao118 t1343.length co118]] rfl ?_; (with_reducible refine (impl_TakeWinner.calls k1 t1342 _ _ t1343 false true _ ?side1 ?side2 A107.out).mono ?_); (case side1 => exact Cl_ (Kd.R_reads' HO1345.out).2.2); (case side2 => exact (Kd.R_reads' HO1345.out).2.1); rintro e w121 ⟨rfl, hb⟩; refine ⟨_, rfl, ?_⟩; replace HO_6 := Aside0.mk (Kd.R_below (Rl_ HO_6.out) hb); replace HO_268 := Aside0.mk (Kd.R_below (Rl_ HO_268.out) hb); replace HO_1291001 := Aside0.mk (Kd.R_below (Rl_ HO_1291001.out) hb); replace HO1341 := Aside0.mk (Kd.R_below (Rl_ HO1341.out) hb); replace HO1345 := Aside0.mk (Kd.R_below (Rl_ HO1345.out) hb); replace BK1290 := blkB_ BK1290 hb; replace BK1347 := blkB_ BK1347 hb; replace HB := Aside0.mk (below_step (Bl_ HB) hb); (try clear hb); (try clear hb2); (try clear hk); (try clear hi)))
          go_roundg k1
          case measure => have := HK1.out; omega
          case rel => exact ⟨(wrap64 (x270_1 + 1)), (by first | rfl | (simp; done) | (simp [*]; done)), H', ⟨by have := HK1.out; omega⟩, ⟨Rl_ (Kd.R_mono HO_6.out (fun _ hk => ⟨hk.1.1.1, hk.1.1.2⟩))⟩, ⟨Rl_ (Kd.R_mono HO_268.out (fun _ hk => ⟨hk.1.1.1, hk.1.1.2⟩))⟩, ⟨Rl_ (Kd.R_mono HO_1291001.out (fun _ hk => ⟨hk.1.1.1, hk.1.1.2⟩))⟩, ⟨bl_ BK1290⟩, ⟨Bl_ HB⟩⟩
         replace c106 := Bool.eq_false_iff.mpr c106
         subst c106
         rw [if_neg (show ¬ (false = true) by decide)] at H
         have H' := Aside0.mk H
         clear H
         have p1338 : 0 ≤ (x270_1 : Int) := of_decide_eq_true (by first | (with_reducible assumption) | assumption)
         have q1338 : x270_1 < (t1303.length : Int) := of_decide_eq_true (by first | (with_reducible assumption) | assumption)
         obtain ⟨ad1338, e1338, hx1338_0⟩ := Kd.at_int (Kd.R_reads' HO_268.out).2.2 x270_1 p1338 q1338
         cases e1338
         replace p1338 := eq_true p1338
         replace q1338 := eq_true q1338
         have hcz122_0 : wr.cell? ⟨gb1290, 0, none⟩ = some (.int .i64 t1286) := (blk_cell BK1290.out 0).trans rfl
         have hcz122_1 : wr.cell? ⟨gb1290, 1, none⟩ = some (.slice Ao46 t1287.length co46) := (blk_cell BK1290.out 1).trans rfl
         have hfz122_0 := blk_frozen BK1290.out 0
         have hfz122_1 := blk_frozen BK1290.out 1
         go_wp2_with (first | ((with_reducible refine gate_dst (N := 277) rfl ?_); (try (refine gate_guard (by rfl) ?_; dsimp only)); refine Kd.R_lit (Kd.int .i64) _ 3 ?hg (N := 277) ?hd (xs := ([rd t1303 x270_1] : List Int)) (inner := [.int .i64 (rd t1303 x270_1)]) (ok := fun _ => True) (okp := fun _ => True) ?hr ?hp (fun _ hk => hk) trivial (Below.refl _ _) (Nat.le_refl _) (by simp) ?_; (case hd => rfl); (case hg => rfl); (case hr => first | (go_simp; done) | (go_simp; rfl)); (case hp => exact (Reps.one (show Kd.M (Kd.int .i64) _ _ _ (rd t1303 x270_1) [.int .i64 (rd t1303 x270_1)] from rfl) (Reps.none _ _))); intro v1340 w123 ho124 hb hg_ hnew_; clear hg_ hnew_; (first | rw [← Ny1339.out] at ho124 | (simp only [Int.reduceToNat] at ho124; rw [← Ny1339.out] at ho124)); have HO1341 := Aside0.mk (Kd.R_lower (Kd.R_new' (Kd.R_new' (Kd.R_new' ho124 (Kd.R_lt (Rl_ HO_6.out))) (Kd.R_lt (Rl_ HO_268.out))) (Kd.R_lt (Rl_ HO_1291001.out))) (below_size (Bl_ HB))); replace HO_6 := Aside0.mk (Kd.R_elder' (Rl_ HO_6.out) (Kd.R_base ho124) hb); replace HO_268 := Aside0.mk (Kd.R_elder' (Rl_ HO_268.out) (Kd.R_base ho124) hb); replace HO_1291001 := Aside0.mk (Kd.R_elder' (Rl_ HO_1291001.out) (Kd.R_base ho124) hb); replace BK1290 := blkB_ BK1290 hb; replace HB := Aside0.mk (below_step (Bl_ HB) hb); clear hb ho124; obtain ⟨Ao125, co125, eo125⟩ := Kd.R_slice HO1341.out; subst eo125) | ((with_reducible refine gate_callee (f := 63) rfl ?_); refine gl_ (some 278) rfl rfl Try.func63 (by kernel_rfl) rfl #[.agg #[.int .i64 t1286, .slice Ao46 t1287.length co46], .slice Ao125 y1339.length co125] rfl ?_; (with_reducible refine (impl_PlayTakes.calls k1 t1286 _ _ t1287 _ _ y1339 t1342 t1343 true _ ?side1 ?side2 ?side3 ?side4 A103.out).mono ?_); (case side1 => exact Cl_ (Kd.R_reads' HO_1291001.out).2.2); (case side2 => exact (Kd.R_reads' HO_1291001.out).2.1); (case side3 => exact Cl_ (Kd.R_reads' HO1341.out).2.2); (case side4 => exact (Kd.R_reads' HO1341.out).2.1); rintro e w126 ⟨v1344, rfl, ho0, hb⟩; refine ⟨_, rfl, ?_⟩; have HO1345 := Aside0.mk (Kd.R_lower (Kd.R_new' (Kd.R_new' (Kd.R_new' (Kd.R_new' ho0 (Kd.R_lt (Rl_ HO_6.out))) (Kd.R_lt (Rl_ HO_268.out))) (Kd.R_lt (Rl_ HO_1291001.out))) (Kd.R_lt (Rl_ HO1341.out))) (below_size (Bl_ HB))); replace HO_6 := Aside0.mk (Kd.R_elder' (Rl_ HO_6.out) (Kd.R_base ho0) hb); replace HO_268 := Aside0.mk (Kd.R_elder' (Rl_ HO_268.out) (Kd.R_base ho0) hb); replace HO_1291001 := Aside0.mk (Kd.R_elder' (Rl_ HO_1291001.out) (Kd.R_base ho0) hb); replace HO1341 := Aside0.mk (Kd.R_elder' (Rl_ HO1341.out) (Kd.R_base ho0) hb); replace BK1290 := blkB_ BK1290 hb; replace HB := Aside0.mk (below_step (Bl_ HB) hb); (try clear hb); (try clear hb2); (try clear hk); (try clear hi); (try clear ho0)) | ((with_reducible refine gate_dst (N := 34) rfl ?_); (try (refine gate_guard (by rfl) ?_; dsimp only)); refine box_event ?hg (N := 34) ?hd (cs := #[.int .i64 0, .slice none 0 0]) (t := 26) ?hr ?_; (case hd => rfl); (case hg => rfl); (case hr => first | (go_simp; done) | (go_simp; rfl)); intro gb1347 hg w127 hbox hb; replace HO_6 := Aside0.mk (Kd.R_below (Rl_ HO_6.out) hb); replace HO_268 := Aside0.mk (Kd.R_below (Rl_ HO_268.out) hb); replace HO_1291001 := Aside0.mk (Kd.R_below (Rl_ HO_1291001.out) hb); replace HO1341 := Aside0.mk (Kd.R_below (Rl_ HO1341.out) hb); replace HO1345 := Aside0.mk (Kd.R_below (Rl_ HO1345.out) hb); have BK1347 := Aside0.mk (hbox); have GW1347 := Aside0.mk ((by rw [hg]; exact (below_size (Bl_ HB)) : w.heap.size ≤ gb1347)); have GE1347 := Aside0.mk ((by rw [hg]; exact (below_size (Bl_ HB)) : w.heap.size ≤ gb1347)); replace HB := Aside0.mk (below_step (Bl_ HB) hb); have NB1290_1347 := nbl_ BK1290 hg; have NB1347_1290 := nbg_ BK1290 hg; replace BK1290 := blkB_ BK1290 hb; clear hb hbox hg; have hnb128 := NB1347_1290.out; have hnc128 := NB1290_1347.out; have hcz129_0 : w127.cell? ⟨gb1347, 0, none⟩ = some (.int .i64 0) := (blk_cell BK1347.out 0).trans rfl; have hcz129_1 : w127.cell? ⟨gb1347, 1, none⟩ = some (.slice none 0 0) := (blk_cell BK1347.out 1).trans rfl; have hfz129_0 := blk_frozen BK1347.out 0; have hfz129_1 := blk_frozen BK1347.out 1; obtain ⟨Ao130, co130, eo130⟩ := Kd.R_slice HO1345.out; subst eo130) | ((with_reducible refine gate_callee (f := 61) rfl ?_); refine gl_ (some 284) rfl rfl Try.func61 (by kernel_rfl) rfl #[.agg #[.int .i64 t1342, .slice Ao130 t1343.length co130]] rfl ?_; (with_reducible refine (impl_IsTaking.calls k1 t1342 _ _ t1343 false _ ?side1 ?side2 A105.out).mono ?_); (case side1 => refine (Kd.R_reads' (e := 3) (base := w.heap.size) (ok := fun k_ => ((((True ∧ some k_ ≠ (.slice (some ad1334) t1291.length co71 : Value).ownBlock) ∧ some k_ ≠ (.slice (some ad1338) t1303.length co73 : Value).ownBlock) ∧ some k_ ≠ (.slice Ao46 t1287.length co46 : Value).ownBlock) ∧ some k_ ≠ (.slice Ao125 y1339.length co125 : Value).ownBlock)) (n := t1343.length) (c := co130) ?_).2.2; exact (Rl_ (Rf2_ HO1345.out BK1347.out (by decide) (.int .i64 t1342) (.slice Ao130 t1343.length co130)))); (case side2 => exact (Kd.R_reads' HO1345.out).2.1); rintro e w131 ⟨rfl, hb⟩; refine ⟨_, rfl, ?_⟩; replace HO_6 := Aside0.mk (Kd.R_below (Rl_ (Rf2_ HO_6.out BK1347.out (by decide) (.int .i64 t1342) (.slice Ao130 t1343.length co130))) hb); replace HO_268 := Aside0.mk (Kd.R_below (Rl_ (Rf2_ HO_268.out BK1347.out (by decide) (.int .i64 t1342) (.slice Ao130 t1343.length co130))) hb); replace HO_1291001 := Aside0.mk (Kd.R_below (Rl_ (Rf2_ HO_1291001.out BK1347.out (by decide) (.int .i64 t1342) (.slice Ao130 t1343.length co130))) hb); replace HO1341 := Aside0.mk (Kd.R_below (Rl_ (Rf2_ HO1341.out BK1347.out (by decide) (.int .i64 t1342) (.slice Ao130 t1343.length co130))) hb); replace HO1345 := Aside0.mk (Kd.R_below (Rl_ (Rf2_ HO1345.out BK1347.out (by decide) (.int .i64 t1342) (.slice Ao130 t1343.length co130))) hb); replace BK1290 := blkF_ BK1290 NB1290_1347 hb; replace BK1347 := Aside0.mk (blk_below (g := gb1347) (o := .cells #[.int .i64 t1342, .slice Ao130 t1343.length co130] 26 (0, 0)) (by (with_reducible repeat (first | refine blk_drewN ?_ _ | refine blk_drew ?_ | refine blk_alloc ?_ _)); refine blk_put (cs := #[.int .i64 t1342, .slice none 0 0]) ?_ 1 _ rfl; (with_reducible repeat (first | refine blk_drewN ?_ _ | refine blk_drew ?_ | refine blk_alloc ?_ _)); refine blk_put (cs := #[.int .i64 0, .slice none 0 0]) ?_ 0 _ rfl; (with_reducible repeat (first | refine blk_drewN ?_ _ | refine blk_drew ?_ | refine blk_alloc ?_ _)); exact BK1347.out) hb); replace HB := Aside0.mk (below_step (Bl_ HB) hb); (try clear hb); (try clear hb2); (try clear hk); (try clear hi)))
         go_roundg k1
         case measure => have := HK1.out; omega
         case rel => exact ⟨(wrap64 (x270_1 + 1)), (by first | rfl | (simp; done) | (simp [*]; done)), H', ⟨by have := HK1.out; omega⟩, ⟨Rl_ (Kd.R_mono HO_6.out (fun _ hk => ⟨hk.1.1.1, hk.1.1.2⟩))⟩, ⟨Rl_ (Kd.R_mono HO_268.out (fun _ hk => ⟨hk.1.1.1, hk.1.1.2⟩))⟩, ⟨Rl_ (Kd.R_mono HO_1291001.out (fun _ hk => ⟨hk.1.1.1, hk.1.1.2⟩))⟩, ⟨bl_ BK1290⟩, ⟨Bl_ HB⟩⟩
        rw [if_neg c100] at H
        have c100b0 : decide (x270_1 < (t1303.length : Int)) = false := decide_eq_false c100
        clear c100
        by_cases c132 : (t1291.length : Int) > 1
        ·rw [if_pos c132] at H
         have c132b0 : decide (1 < (t1291.length : Int)) = true := decide_eq_true c132
         have c132b1 : decide (1 < t1291.length) = true := decide_eq_true (by omega)
         clear c132
         by_cases c133 : 1 ≤ (t1291.length : Int)
         rotate_left
         ·rw [if_neg c133] at H
          exact absurd H (by simp)
         rw [if_pos c133] at H
         have c133b0 := eq_true c133
         have c133b1 : decide (1 ≤ (t1291.length : Int)) = true := decide_eq_true c133
         clear c133
         obtain ⟨y1351, hy1351⟩ : ∃ y_ : List Int, y_ = (t1291.take 1) := ⟨_, rfl⟩
         replace H : ((impl_PlayTakes.f k1 t1286 t1287 y1351).bind fun bt1355 => ((impl_TakeLength.f k1 bt1355.1 bt1355.2.1).bind fun bt1361 => (if bt1355.2.2 = true then (if bt1361.2 = true then (if bt1361.1 = (wrap64 (t1311 - 1)) then (laws_FnTakesPlayed.j1 k1 l1) else (none)) else (none)) else (none)))) = some r := by first | (rw [hy1351]; with_reducible exact H) | (have H2_ := (Option.bind_some _ _).symm.trans H; rw [hy1351]; with_reducible exact H2_) | (have H2_ := (Option.bind_some _ _).symm.trans H; with_reducible exact H2_) | with_reducible exact H | (rw [hy1351]; exact H) | exact H
         have Ny1351 := Aside0.mk hy1351
         clear hy1351
         replace H := Option.bind_eq_some_iff.mp H
         obtain ⟨⟨t1355, t1356, t1359⟩, A1340, H⟩ := H
         (try dsimp only at H)
         have A134 := Aside0.mk A1340
         clear A1340
         replace H := Option.bind_eq_some_iff.mp H
         obtain ⟨⟨t1361, t1362⟩, A1350, H⟩ := H
         (try dsimp only at H)
         have A135 := Aside0.mk A1350
         clear A1350
         by_cases c136 : t1359 = true
         rotate_left
         ·replace c136 := Bool.eq_false_iff.mpr c136
          subst c136
          rw [if_neg (show ¬ (false = true) by decide)] at H
          exact absurd H (by simp)
         subst c136
         rw [if_pos rfl] at H
         by_cases c137 : t1362 = true
         rotate_left
         ·replace c137 := Bool.eq_false_iff.mpr c137
          subst c137
          rw [if_neg (show ¬ (false = true) by decide)] at H
          exact absurd H (by simp)
         subst c137
         rw [if_pos rfl] at H
         by_cases c138 : t1361 = (wrap64 (t1311 - 1))
         rotate_left
         ·rw [if_neg c138] at H
          exact absurd H (by simp)
         rw [if_pos c138] at H
         have c138b0 : (t1361 == (wrap64 (t1311 - 1))) = true := beq_iff_eq.mpr c138
         have c138b1 : (t1361 != (wrap64 (t1311 - 1))) = false := bne_eq_false_iff_eq.mpr c138
         clear c138
         have H' := Aside0.mk H
         clear H
         try go_wp2
         replace HO_6 := Aside0.mk (Kd.R_drew HO_6.out)
         replace HO_268 := Aside0.mk (Kd.R_drew HO_268.out)
         replace HO_1291001 := Aside0.mk (Kd.R_drew HO_1291001.out)
         replace BK1290 := Aside0.mk (blk_drew BK1290.out)
         replace HB := Aside0.mk (below_drew1 HB.out)
         have q140 : (1 : Int) ≤ ((t1291.length : Int) : Int) := of_decide_eq_true (by first | (with_reducible assumption) | assumption)
         obtain ⟨i0140, hi0140, _, hsz140, _⟩ := info_parts info3
         have hroom140 : t1291.length ≤ co71 := (Kd.R_reads' HO_6.out).2.1
         have hC140 : Kd.C (Kd.int .i64) _ (some ad1334) t1291.length t1291 := (Kd.R_reads' HO_6.out).2.2
         have hcut140 := cut_to (P := Try.prog) 24 3 .i64 Try.underlying24 hi0140 (some ad1334) t1291.length co71 1 (by omega) q140 hroom140
         have hr140 := Kd.C_take (m := 1) hC140 (by omega)
         have hy140 : y1351.length = (1 : Int).toNat := (by rw [Ny1351.out, List.length_take]; omega)
         rw [← Ny1351.out] at hr140
         rw [← hy140] at hcut140
         have HR1354 := Aside0.mk hr140
         have HC1354 := Aside0.mk (show y1351.length ≤ co71 from by omega)
         clear hr140 hC140 hroom140 hi0140 hsz140
         have KY140 := Aside0.mk hy140
         clear hy140
         have KL140 := Aside0.mk (show 1 ≤ t1291.length from by omega)
         replace q140 := eq_true q140
         refine start_ (n := 10) (S := fun w' => w'.cell? ⟨gb1290, 0, none⟩ = some (.int .i64 t1286) ∧ w'.cell? ⟨gb1290, 1, none⟩ = some (.slice Ao46 t1287.length co46)) (ds := []) (fl_ 10 0) (by kernel_rfl) rfl rfl ⟨(blk_cell BK1290.out 0).trans rfl, (blk_cell BK1290.out 1).trans rfl⟩ (fun hHeld => ?_); refine with_tabW laws_FnTakesPlayed.tab34 laws_FnTakesPlayed.bits34 (fun HT_ HW_ => ?_)
         generalize wr.drew = w139 at HO_6 HO_268 HO_1291001 BK1290 HB HR1354 hHeld ⊢
         refine pure_ (i := 1) (N := some 301) (v := ?_) (a' := ?_) #[false, true, false, false, false, false, false, false, false, false] rfl rfl (any_of HT_.out (by kernel_rfl)) (fun _ _ _ h => h) (Or.inl ⟨by rfl, ?_⟩) ?_ ?_
         rotate_left
         ·intro w'
          go_simp
          with_reducible rfl
         rotate_left
         ·simp only [Act.put, List.setIfInBounds_toArray, List.set_cons_zero, List.set_cons_succ, i64_w, i32_w]
          rfl
         refine pure_ (i := 2) (N := some 302) (v := ?_) (a' := ?_) #[false, true, true, false, false, false, false, false, false, false] rfl rfl (any_of HT_.out (by kernel_rfl)) (fun _ _ _ h => h) (Or.inl ⟨by rfl, ?_⟩) ?_ ?_
         rotate_left
         ·intro w'
          go_simp
          with_reducible rfl
         rotate_left
         ·simp only [Act.put, List.setIfInBounds_toArray, List.set_cons_zero, List.set_cons_succ, i64_w, i32_w]
          rfl
         refine take_ (i := 0) (N := some 300) (v := ?_) (a' := ?_) (fl_ 10 3) rfl rfl (take_ofW HT_.out HW_.out (by kernel_rfl)) (fun _ _ _ h => h) (Or.inl ⟨by rfl, ?_⟩) hHeld ?_ ?_
         rotate_left
         ·rintro w' ⟨s0, s1⟩
          go_simp
          with_reducible rfl
         rotate_left
         ·simp only [Act.put, List.setIfInBounds_toArray, List.set_cons_zero, List.set_cons_succ, i64_w, i32_w]
          rfl
         refine join_ (σ := Value × Nat) 2 (fl_ 10 8) (fun s_ => [(303, .tuple #[.agg #[.int .i64 t1355, s_.1], .bool true]), (38, .pointer (some ⟨s_.2, 0, none⟩)), (299, .tuple #[.agg #[.int .i64 t1355, s_.1], .bool true]), (304, .agg #[.int .i64 t1355, s_.1]), (305, .bool true)]) (fun s_ w' => (w'.cell? ⟨gb1290, 0, none⟩ = some (.int .i64 t1286) ∧ w'.cell? ⟨gb1290, 1, none⟩ = some (.slice Ao46 t1287.length co46)) ∧ (Kd.R (Kd.int .i64) 3 w' w.heap.size (fun k_ => some k_ ≠ (.slice Ao46 t1287.length co46 : Value).ownBlock ∧ some k_ ≠ (.slice Ao73 t1303.length co73 : Value).ownBlock ∧ some k_ ≠ (.slice (some ad1334) t1291.length co71 : Value).ownBlock) s_.1 t1356) ∧ (Kd.R (Kd.int .i64) 3 w' w.heap.size (fun k_ => some k_ ≠ (s_.1 : Value).ownBlock ∧ some k_ ≠ (.slice Ao73 t1303.length co73 : Value).ownBlock ∧ some k_ ≠ (.slice (some ad1334) t1291.length co71 : Value).ownBlock) (.slice Ao46 t1287.length co46) t1287) ∧ (Kd.R (Kd.int .i64) 3 w' w.heap.size (fun k_ => some k_ ≠ (s_.1 : Value).ownBlock ∧ some k_ ≠ (.slice Ao46 t1287.length co46 : Value).ownBlock ∧ some k_ ≠ (.slice (some ad1334) t1291.length co71 : Value).ownBlock) (.slice Ao73 t1303.length co73) t1303) ∧ (Kd.R (Kd.int .i64) 3 w' w.heap.size (fun k_ => some k_ ≠ (s_.1 : Value).ownBlock ∧ some k_ ≠ (.slice Ao46 t1287.length co46 : Value).ownBlock ∧ some k_ ≠ (.slice Ao73 t1303.length co73 : Value).ownBlock) (.slice (some ad1334) t1291.length co71) t1291) ∧ (w'.heap[gb1290]? = some (.cells #[.int .i64 t1286, .slice Ao46 t1287.length co46] 26 (0, 0))) ∧ (w'.heap[s_.2]? = some (.cells #[.int .i64 0, .slice none 0 0] 26 (0, 0))) ∧ (w.heap.size ≤ s_.2) ∧ (w.heap.size ≤ s_.2) ∧ (gb1290 ≠ s_.2) ∧ (s_.2 ≠ gb1290) ∧ (Below w.heap.size w w')) ?_ ?_
         rotate_left
         ·intro hCont
          refine two_ (i := 3) (j := 7) (Ni := some 303) (Nj := some 38) (fl_ 10 4) #[true, true, true, false, false, false, false, true, false, false] rfl rfl rfl rfl (two_of HT_.out (by kernel_rfl)) (by decide) (by decide) (fun K hK => ?_) (fun K hK => ?_)
          ·skip
           refine gs_ Try.func63 (by kernel_rfl) rfl #[.agg #[.int .i64 t1286, .slice Ao46 t1287.length co46], .slice (some ad1334) y1351.length co71] (by rfl) rfl rfl ?_
           with_reducible refine (impl_PlayTakes.calls k1 t1286 _ _ t1287 _ _ y1351 t1355 t1356 true _ ?side1 ?side2 ?side3 ?side4 A134.out).mono ?_
           (case side1 => exact Cl_ (Kd.R_reads' HO_1291001.out).2.2)
           (case side2 => exact (Kd.R_reads' HO_1291001.out).2.1)
           (case side3 => repeat (first | exact (by repeat (first | (with_reducible exact HR1354.out) | (with_reducible refine Kd.C_alloc ?_ _) | (with_reducible refine Kd.C_drewN ?_ _) | (with_reducible refine Kd.C_drew ?_) | exact HR1354.out)) | (with_reducible refine Kd.C_alloc ?_ _) | (with_reducible refine Kd.C_drewN ?_ _) | (with_reducible refine Kd.C_drew ?_)))
           (case side4 => exact HC1354.out)
           rintro e w141 ⟨v1357, rfl, ho0, hb⟩
           refine ⟨_, rfl, ?_⟩
           have HO1358 := Aside0.mk (Kd.R_lower (Kd.R_new' (Kd.R_new' (Kd.R_new' ho0 (Kd.R_lt (Rl_ HO_6.out))) (Kd.R_lt (Rl_ HO_268.out))) (Kd.R_lt (Rl_ HO_1291001.out))) (below_size (Bl_ HB)))
           replace HO_6 := Aside0.mk (Kd.R_elder' (Rl_ HO_6.out) (Kd.R_base ho0) hb)
           replace HO_268 := Aside0.mk (Kd.R_elder' (Rl_ HO_268.out) (Kd.R_base ho0) hb)
           replace HO_1291001 := Aside0.mk (Kd.R_elder' (Rl_ HO_1291001.out) (Kd.R_base ho0) hb)
           replace BK1290 := blkB_ BK1290 hb
           replace HR1354 := Aside0.mk (Kd.C_below (by repeat (first | (with_reducible exact HR1354.out) | (with_reducible refine Kd.C_alloc ?_ _) | (with_reducible refine Kd.C_drewN ?_ _) | (with_reducible refine Kd.C_drew ?_) | exact HR1354.out)) hb)
           replace HB := Aside0.mk (below_step (Bl_ HB) hb)
           (try clear hb); (try clear hb2); (try clear hk); (try clear hi); (try clear ho0)
           refine hK.out _ _ ⟨(blk_cell BK1290.out 0).trans rfl, (blk_cell BK1290.out 1).trans rfl⟩ (fun hHeld => ?_)
           clear hK K
           refine norm_ (a' := ?_) ?_ ?_
           rotate_left
           ·show Act.put _ (some 303) _ = _
            simp only [Act.put, List.setIfInBounds_toArray, List.set_cons_zero, List.set_cons_succ, i64_w, i32_w]
            rfl
           refine pure_ (i := 4) (N := some 299) (v := ?_) (a' := ?_) (fl_ 10 5) rfl rfl (any_of HT_.out (by kernel_rfl)) (fun _ _ _ h => h) (Or.inl ⟨by rfl, ?_⟩) ?_ ?_
           rotate_left
           ·intro w'
            go_simp
            with_reducible rfl
           rotate_left
           ·simp only [Act.put, List.setIfInBounds_toArray, List.set_cons_zero, List.set_cons_succ, i64_w, i32_w]
            rfl
           refine pure_ (i := 5) (N := some 304) (v := ?_) (a' := ?_) (fl_ 10 6) rfl rfl (any_of HT_.out (by kernel_rfl)) (fun _ _ _ h => h) (Or.inl ⟨by rfl, ?_⟩) ?_ ?_
           rotate_left
           ·intro w'
            go_simp
            with_reducible rfl
           rotate_left
           ·simp only [Act.put, List.setIfInBounds_toArray, List.set_cons_zero, List.set_cons_succ, i64_w, i32_w]
            rfl
           refine pure_ (i := 6) (N := some 305) (v := ?_) (a' := ?_) (fl_ 10 7) rfl rfl (any_of HT_.out (by kernel_rfl)) (fun _ _ _ h => h) (Or.inl ⟨by rfl, ?_⟩) ?_ ?_
           rotate_left
           ·intro w'
            go_simp
            with_reducible rfl
           rotate_left
           ·simp only [Act.put, List.setIfInBounds_toArray, List.set_cons_zero, List.set_cons_succ, i64_w, i32_w]
            rfl
           refine one_ (i := 7) (N := some 38) (fl_ 10 8) rfl rfl (one_of HT_.out (by kernel_rfl)) (by decide) (fun K hK => ?_)
           refine box_step ?hg (N := 38) ?hd (cs := #[.int .i64 0, .slice none 0 0]) (t := 26) ?hr ?_; (case hd => rfl); (case hg => rfl); (case hr => first | (go_simp; done) | (go_simp; rfl))
           intro gb1360 hg w142 hbox hb
           replace HO_6 := Aside0.mk (Kd.R_below (Rl_ HO_6.out) hb)
           replace HO_268 := Aside0.mk (Kd.R_below (Rl_ HO_268.out) hb)
           replace HO_1291001 := Aside0.mk (Kd.R_below (Rl_ HO_1291001.out) hb)
           replace HO1358 := Aside0.mk (Kd.R_below (Rl_ HO1358.out) hb)
           replace HR1354 := Aside0.mk (Kd.C_below (by repeat (first | (with_reducible exact HR1354.out) | (with_reducible refine Kd.C_alloc ?_ _) | (with_reducible refine Kd.C_drewN ?_ _) | (with_reducible refine Kd.C_drew ?_) | exact HR1354.out)) hb)
           have BK1360 := Aside0.mk (hbox)
           have GW1360 := Aside0.mk ((by rw [hg]; exact (below_size (Bl_ HB)) : w.heap.size ≤ gb1360))
           have GE1360 := Aside0.mk ((by rw [hg]; exact (below_size (Bl_ HB)) : w.heap.size ≤ gb1360))
           replace HB := Aside0.mk (below_step (Bl_ HB) hb)
           have NB1290_1360 := nbl_ BK1290 hg
           have NB1360_1290 := nbg_ BK1290 hg
           replace BK1290 := blkB_ BK1290 hb
           clear hb hbox hg
           refine hK.out _ _ ⟨(blk_cell BK1290.out 0).trans rfl, (blk_cell BK1290.out 1).trans rfl⟩ (fun hHeld => ?_)
           clear hK K
           refine norm_ (a' := ?_) ?_ ?_
           rotate_left
           ·show Act.put _ (some 38) _ = _
            simp only [Act.put, List.setIfInBounds_toArray, List.set_cons_zero, List.set_cons_succ, i64_w, i32_w]
            rfl
           exact norm_ (by simp only [putAll, Act.put, List.setIfInBounds_toArray, List.set_cons_zero, List.set_cons_succ]) (hCont (v1357, gb1360) _ ⟨hHeld, (Rl_ (Kd.R_mono HO1358.out (fun _ hk => ⟨hk.2, ⟨hk.1.2, hk.1.1.2⟩⟩))), (Rl_ (Kd.R_mono HO_1291001.out (fun _ hk => ⟨hk.2, ⟨hk.1.2, hk.1.1⟩⟩))), (Rl_ (Kd.R_mono HO_268.out (fun _ hk => ⟨hk.2, ⟨hk.1.2, hk.1.1⟩⟩))), (Rl_ (Kd.R_mono HO_6.out (fun _ hk => ⟨hk.2, ⟨hk.1.2, hk.1.1⟩⟩))), (bl_ BK1290), (bl_ BK1360), GW1360.out, GE1360.out, NB1290_1360.out, NB1360_1290.out, (Bl_ HB)⟩)
          ·skip
           refine box_step ?hg (N := 38) ?hd (cs := #[.int .i64 0, .slice none 0 0]) (t := 26) ?hr ?_; (case hd => rfl); (case hg => rfl); (case hr => first | (go_simp; done) | (go_simp; rfl))
           intro gb1360 hg w141 hbox hb
           replace HO_6 := Aside0.mk (Kd.R_below (Rl_ HO_6.out) hb)
           replace HO_268 := Aside0.mk (Kd.R_below (Rl_ HO_268.out) hb)
           replace HO_1291001 := Aside0.mk (Kd.R_below (Rl_ HO_1291001.out) hb)
           replace HR1354 := Aside0.mk (Kd.C_below (by repeat (first | (with_reducible exact HR1354.out) | (with_reducible refine Kd.C_alloc ?_ _) | (with_reducible refine Kd.C_drewN ?_ _) | (with_reducible refine Kd.C_drew ?_) | exact HR1354.out)) hb)
           have BK1360 := Aside0.mk (hbox)
           have GW1360 := Aside0.mk ((by rw [hg]; exact (below_size (Bl_ HB)) : w.heap.size ≤ gb1360))
           have GE1360 := Aside0.mk ((by rw [hg]; exact (below_size (Bl_ HB)) : w.heap.size ≤ gb1360))
           replace HB := Aside0.mk (below_step (Bl_ HB) hb)
           have NB1290_1360 := nbl_ BK1290 hg
           have NB1360_1290 := nbg_ BK1290 hg
           replace BK1290 := blkB_ BK1290 hb
           clear hb hbox hg
           refine hK.out _ _ ⟨(blk_cell BK1290.out 0).trans rfl, (blk_cell BK1290.out 1).trans rfl⟩ (fun hHeld => ?_)
           clear hK K
           refine norm_ (a' := ?_) ?_ ?_
           rotate_left
           ·show Act.put _ (some 38) _ = _
            simp only [Act.put, List.setIfInBounds_toArray, List.set_cons_zero, List.set_cons_succ, i64_w, i32_w]
            rfl
           refine one_ (i := 3) (N := some 303) #[true, true, true, true, false, false, false, true, false, false] rfl rfl (one_of HT_.out (by kernel_rfl)) (by decide) (fun K hK => ?_)
           refine gs_ Try.func63 (by kernel_rfl) rfl #[.agg #[.int .i64 t1286, .slice Ao46 t1287.length co46], .slice (some ad1334) y1351.length co71] (by rfl) rfl rfl ?_
           with_reducible refine (impl_PlayTakes.calls k1 t1286 _ _ t1287 _ _ y1351 t1355 t1356 true _ ?side1 ?side2 ?side3 ?side4 A134.out).mono ?_
           (case side1 => exact Cl_ (Kd.R_reads' HO_1291001.out).2.2)
           (case side2 => exact (Kd.R_reads' HO_1291001.out).2.1)
           (case side3 => repeat (first | exact (by repeat (first | (with_reducible exact HR1354.out) | (with_reducible refine Kd.C_alloc ?_ _) | (with_reducible refine Kd.C_drewN ?_ _) | (with_reducible refine Kd.C_drew ?_) | exact HR1354.out)) | (with_reducible refine Kd.C_alloc ?_ _) | (with_reducible refine Kd.C_drewN ?_ _) | (with_reducible refine Kd.C_drew ?_)))
           (case side4 => exact HC1354.out)
           rintro e w142 ⟨v1357, rfl, ho0, hb⟩
           refine ⟨_, rfl, ?_⟩
           have HO1358 := Aside0.mk (Kd.R_lower (Kd.R_new' (Kd.R_new' (Kd.R_new' ho0 (Kd.R_lt (Rl_ HO_6.out))) (Kd.R_lt (Rl_ HO_268.out))) (Kd.R_lt (Rl_ HO_1291001.out))) (below_size (Bl_ HB)))
           replace HO_6 := Aside0.mk (Kd.R_elder' (Rl_ HO_6.out) (Kd.R_base ho0) hb)
           replace HO_268 := Aside0.mk (Kd.R_elder' (Rl_ HO_268.out) (Kd.R_base ho0) hb)
           replace HO_1291001 := Aside0.mk (Kd.R_elder' (Rl_ HO_1291001.out) (Kd.R_base ho0) hb)
           replace BK1290 := blkB_ BK1290 hb
           replace HR1354 := Aside0.mk (Kd.C_below (by repeat (first | (with_reducible exact HR1354.out) | (with_reducible refine Kd.C_alloc ?_ _) | (with_reducible refine Kd.C_drewN ?_ _) | (with_reducible refine Kd.C_drew ?_) | exact HR1354.out)) hb)
           replace BK1360 := blkB_ BK1360 hb
           replace HB := Aside0.mk (below_step (Bl_ HB) hb)
           (try clear hb); (try clear hb2); (try clear hk); (try clear hi); (try clear ho0)
           refine hK.out _ _ ⟨(blk_cell BK1290.out 0).trans rfl, (blk_cell BK1290.out 1).trans rfl⟩ (fun hHeld => ?_)
           clear hK K
           refine norm_ (a' := ?_) ?_ ?_
           rotate_left
           ·show Act.put _ (some 303) _ = _
            simp only [Act.put, List.setIfInBounds_toArray, List.set_cons_zero, List.set_cons_succ, i64_w, i32_w]
            rfl
           refine pure_ (i := 4) (N := some 299) (v := ?_) (a' := ?_) #[true, true, true, true, true, false, false, true, false, false] rfl rfl (any_of HT_.out (by kernel_rfl)) (fun _ _ _ h => h) (Or.inl ⟨by rfl, ?_⟩) ?_ ?_
           rotate_left
           ·intro w'
            go_simp
            with_reducible rfl
           rotate_left
           ·simp only [Act.put, List.setIfInBounds_toArray, List.set_cons_zero, List.set_cons_succ, i64_w, i32_w]
            rfl
           refine pure_ (i := 5) (N := some 304) (v := ?_) (a' := ?_) #[true, true, true, true, true, true, false, true, false, false] rfl rfl (any_of HT_.out (by kernel_rfl)) (fun _ _ _ h => h) (Or.inl ⟨by rfl, ?_⟩) ?_ ?_
           rotate_left
           ·intro w'
            go_simp
            with_reducible rfl
           rotate_left
           ·simp only [Act.put, List.setIfInBounds_toArray, List.set_cons_zero, List.set_cons_succ, i64_w, i32_w]
            rfl
           refine pure_ (i := 6) (N := some 305) (v := ?_) (a' := ?_) (fl_ 10 8) rfl rfl (any_of HT_.out (by kernel_rfl)) (fun _ _ _ h => h) (Or.inl ⟨by rfl, ?_⟩) ?_ ?_
           rotate_left
           ·intro w'
            go_simp
            with_reducible rfl
           rotate_left
           ·simp only [Act.put, List.setIfInBounds_toArray, List.set_cons_zero, List.set_cons_succ, i64_w, i32_w]
            rfl
           exact norm_ (by simp only [putAll, Act.put, List.setIfInBounds_toArray, List.set_cons_zero, List.set_cons_succ]) (hCont (v1357, gb1360) _ ⟨hHeld, (Rl_ (Kd.R_mono HO1358.out (fun _ hk => ⟨hk.2, ⟨hk.1.2, hk.1.1.2⟩⟩))), (Rl_ (Kd.R_mono HO_1291001.out (fun _ hk => ⟨hk.2, ⟨hk.1.2, hk.1.1⟩⟩))), (Rl_ (Kd.R_mono HO_268.out (fun _ hk => ⟨hk.2, ⟨hk.1.2, hk.1.1⟩⟩))), (Rl_ (Kd.R_mono HO_6.out (fun _ hk => ⟨hk.2, ⟨hk.1.2, hk.1.1⟩⟩))), (bl_ BK1290), (bl_ BK1360), GW1360.out, GE1360.out, NB1290_1360.out, NB1360_1290.out, (Bl_ HB)⟩)
         rintro ⟨v1357, gb1360⟩ w143 ⟨hS_, h0_, h1_, h2_, h3_, h4_, h5_, h6_, h7_, h8_, h9_, h10_⟩
         have HO1358 : Aside0 (Kd.R (Kd.int .i64) 3 w143 w.heap.size (fun k_ => some k_ ≠ (.slice Ao46 t1287.length co46 : Value).ownBlock ∧ some k_ ≠ (.slice Ao73 t1303.length co73 : Value).ownBlock ∧ some k_ ≠ (.slice (some ad1334) t1291.length co71 : Value).ownBlock) v1357 t1356) := ⟨h0_⟩
         replace HO_1291001 : Aside0 (Kd.R (Kd.int .i64) 3 w143 w.heap.size (fun k_ => some k_ ≠ (v1357 : Value).ownBlock ∧ some k_ ≠ (.slice Ao73 t1303.length co73 : Value).ownBlock ∧ some k_ ≠ (.slice (some ad1334) t1291.length co71 : Value).ownBlock) (.slice Ao46 t1287.length co46) t1287) := ⟨h1_⟩
         replace HO_268 : Aside0 (Kd.R (Kd.int .i64) 3 w143 w.heap.size (fun k_ => some k_ ≠ (v1357 : Value).ownBlock ∧ some k_ ≠ (.slice Ao46 t1287.length co46 : Value).ownBlock ∧ some k_ ≠ (.slice (some ad1334) t1291.length co71 : Value).ownBlock) (.slice Ao73 t1303.length co73) t1303) := ⟨h2_⟩
         replace HO_6 : Aside0 (Kd.R (Kd.int .i64) 3 w143 w.heap.size (fun k_ => some k_ ≠ (v1357 : Value).ownBlock ∧ some k_ ≠ (.slice Ao46 t1287.length co46 : Value).ownBlock ∧ some k_ ≠ (.slice Ao73 t1303.length co73 : Value).ownBlock) (.slice (some ad1334) t1291.length co71) t1291) := ⟨h3_⟩
         replace BK1290 : Aside0 (w143.heap[gb1290]? = some (.cells #[.int .i64 t1286, .slice Ao46 t1287.length co46] 26 (0, 0))) := ⟨h4_⟩
         have BK1360 : Aside0 (w143.heap[gb1360]? = some (.cells #[.int .i64 0, .slice none 0 0] 26 (0, 0))) := ⟨h5_⟩
         have GW1360 : Aside0 (w.heap.size ≤ gb1360) := ⟨h6_⟩
         have GE1360 : Aside0 (w.heap.size ≤ gb1360) := ⟨h7_⟩
         have NB1290_1360 : Aside0 (gb1290 ≠ gb1360) := ⟨h8_⟩
         have NB1360_1290 : Aside0 (gb1360 ≠ gb1290) := ⟨h9_⟩
         replace HB : Aside0 (Below w.heap.size w w143) := ⟨h10_⟩
         clear h0_ h1_ h2_ h3_ h4_ h5_ h6_ h7_ h8_ h9_ h10_
         have hHeld : w143.cell? ⟨gb1290, 0, none⟩ = some (.int .i64 t1286) ∧ w143.cell? ⟨gb1290, 1, none⟩ = some (.slice Ao46 t1287.length co46) := hS_
         obtain ⟨Ao145, co145, eo145⟩ := Kd.R_slice HO1358.out
         (first | subst eo145 | (injection eo145 with f1_ f2_ f3_; have f4_ := f1_.symm; have f5_ := f3_.symm; clear f1_ f2_ f3_; subst f4_; subst f5_))
         refine norm_ (a' := ?_) ?_ ?_
         rotate_left
         ·simp only [putAll, Act.put, List.setIfInBounds_toArray, List.set_cons_zero, List.set_cons_succ]
          rfl
         refine one_ (i := 8) (N := none) (fl_ 10 9) rfl rfl (one_of HT_.out (by kernel_rfl)) (by decide) (fun K hK => ?_)
         have hs144 : w143.cell? ⟨gb1360, 0, none⟩ = some (.int .i64 0) := (blk_cell BK1360.out 0).trans rfl
         have hfs144 := blk_frozen BK1360.out 0
         have hns144_0 := NB1290_1360.out
         have hms144_0 := NB1360_1290.out
         have hs146 : w143.cell? ⟨gb1360, 1, none⟩ = some (.slice none 0 0) := (blk_cell BK1360.out 1).trans rfl
         have hfs146 := blk_frozen BK1360.out 1
         have hns146_0 := NB1290_1360.out
         have hms146_0 := NB1360_1290.out
         refine skip_ (w1 := ?_) (by rfl) rfl ?_ ?_
         rotate_left
         ·go_simp
          rfl
         refine hK.out _ _ ⟨((cell_far (p := ⟨gb1360, _, none⟩) NB1290_1360.out _).trans (((cell_far (p := ⟨gb1360, _, none⟩) NB1290_1360.out _).trans (hHeld.1)))), ((cell_far (p := ⟨gb1360, _, none⟩) NB1290_1360.out _).trans (((cell_far (p := ⟨gb1360, _, none⟩) NB1290_1360.out _).trans (hHeld.2))))⟩ (fun hHeld => ?_)
         clear hK K
         refine pure_ (i := 9) (N := some 39) (v := ?_) (a' := ?_) (fl_ 10 10) rfl rfl (any_of HT_.out (by kernel_rfl)) (fun _ _ _ h => h) (Or.inl ⟨by rfl, ?_⟩) ?_ ?_
         rotate_left
         ·intro w'
          go_simp
          with_reducible rfl
         rotate_left
         ·simp only [Act.put, List.setIfInBounds_toArray, List.set_cons_zero, List.set_cons_succ, i64_w, i32_w]
          rfl
         refine done_ (done_of HT_.out (by kernel_rfl)) ?_
         have hnb147 := NB1360_1290.out
         have hnc147 := NB1290_1360.out
         have hcz148_0 : w143.cell? ⟨gb1360, 0, none⟩ = some (.int .i64 0) := (blk_cell BK1360.out 0).trans rfl
         have hcz148_1 : w143.cell? ⟨gb1360, 1, none⟩ = some (.slice none 0 0) := (blk_cell BK1360.out 1).trans rfl
         have hfz148_0 := blk_frozen BK1360.out 0
         have hfz148_1 := blk_frozen BK1360.out 1
         try go_wp2_with (first | ((with_reducible refine gate_callee (f := 55) rfl ?_); refine gl_ (some 308) rfl rfl Try.func55 (by kernel_rfl) rfl #[.agg #[.int .i64 t1355, .slice Ao145 t1356.length co145]] rfl ?_; (with_reducible refine (impl_TakeLength.calls k1 t1355 _ _ t1356 t1361 true _ ?side1 ?side2 A135.out).mono ?_); (case side1 => refine (Kd.R_reads' (e := 3) (base := w.heap.size) (ok := fun k_ => (some k_ ≠ (.slice Ao46 t1287.length co46 : Value).ownBlock ∧ (some k_ ≠ (.slice Ao73 t1303.length co73 : Value).ownBlock ∧ some k_ ≠ (.slice (some ad1334) t1291.length co71 : Value).ownBlock))) (n := t1356.length) (c := co145) ?_).2.2; exact (Rl_ (Rf2_ HO1358.out BK1360.out (by decide) (.int .i64 t1355) (.slice Ao145 t1356.length co145)))); (case side2 => exact (Kd.R_reads' HO1358.out).2.1); rintro e w149 ⟨rfl, hb⟩; refine ⟨_, rfl, ?_⟩; replace HO_6 := Aside0.mk (Kd.R_below (Rl_ (Rf2_ HO_6.out BK1360.out (by decide) (.int .i64 t1355) (.slice Ao145 t1356.length co145))) hb); replace HO_268 := Aside0.mk (Kd.R_below (Rl_ (Rf2_ HO_268.out BK1360.out (by decide) (.int .i64 t1355) (.slice Ao145 t1356.length co145))) hb); replace HO_1291001 := Aside0.mk (Kd.R_below (Rl_ (Rf2_ HO_1291001.out BK1360.out (by decide) (.int .i64 t1355) (.slice Ao145 t1356.length co145))) hb); replace HO1358 := Aside0.mk (Kd.R_below (Rl_ (Rf2_ HO1358.out BK1360.out (by decide) (.int .i64 t1355) (.slice Ao145 t1356.length co145))) hb); replace BK1290 := blkF_ BK1290 NB1290_1360 hb; replace BK1360 := Aside0.mk (blk_below (g := gb1360) (o := .cells #[.int .i64 t1355, .slice Ao145 t1356.length co145] 26 (0, 0)) (by (with_reducible repeat (first | refine blk_drewN ?_ _ | refine blk_drew ?_ | refine blk_alloc ?_ _)); refine blk_put (cs := #[.int .i64 t1355, .slice none 0 0]) ?_ 1 _ rfl; (with_reducible repeat (first | refine blk_drewN ?_ _ | refine blk_drew ?_ | refine blk_alloc ?_ _)); refine blk_put (cs := #[.int .i64 0, .slice none 0 0]) ?_ 0 _ rfl; (with_reducible repeat (first | refine blk_drewN ?_ _ | refine blk_drew ?_ | refine blk_alloc ?_ _)); exact BK1360.out) hb); replace HB := Aside0.mk (below_step (Bl_ HB) hb); (try clear hb); (try clear hb2); (try clear hk); (try clear hi)))
         go_meet
         case rel => exact ⟨_, H', ⟨by have := HK1.out; first | omega | exact Nat.le_refl _⟩, ⟨Bl_ HB⟩⟩
        rw [if_neg c132] at H
        have c132b0 : decide (1 < (t1291.length : Int)) = false := decide_eq_false c132
        have c132b1 : decide (1 < t1291.length) = false := decide_eq_false (by omega)
        clear c132
        have H' := Aside0.mk H
        clear H
        go_wp2
        go_meet
        case rel => exact ⟨_, H', ⟨by have := HK1.out; first | omega | exact Nat.le_refl _⟩, ⟨Bl_ HB⟩⟩
    as_aux_lemma =>
     replace c83 := Bool.eq_false_iff.mpr c83
     subst c83
     (try (have c82q : decide (0 < t1303.length) = false := by simpa using c82b0))
     rw [if_neg (show ¬ (false = true) by decide)] at H
     by_cases c150 : t1332 = true
     rotate_left
     ·replace c150 := Bool.eq_false_iff.mpr c150
      subst c150
      rw [if_neg (show ¬ (false = true) by decide)] at H
      exact absurd H (by simp)
     subst c150
     rw [if_pos rfl] at H
     replace H := Option.bind_eq_some_iff.mp H
     obtain ⟨t1337, A1510, H⟩ := H
     (try dsimp only at H)
     have A151 := Aside0.mk A1510
     clear A1510
     by_cases c152 : t1337 = true
     ·subst c152
      rw [if_pos rfl] at H
      exact absurd H (by simp)
     replace c152 := Bool.eq_false_iff.mpr c152
     subst c152
     rw [if_neg (show ¬ (false = true) by decide)] at H
     by_cases c153 : t1311 < t1319
     ·rw [if_pos c153] at H
      exact absurd H (by simp)
     rw [if_neg c153] at H
     have c153b0 : decide (t1311 < t1319) = false := decide_eq_false c153
     clear c153
     by_cases c154 : t1319 < 1
     ·rw [if_pos c154] at H
      exact absurd H (by simp)
     rw [if_neg c154] at H
     have c154b0 : decide (t1319 < 1) = false := decide_eq_false c154
     clear c154
     by_cases c155 : t1315 < 1
     ·rw [if_pos c155] at H
      exact absurd H (by simp)
     rw [if_neg c155] at H
     have c155b0 : decide (t1315 < 1) = false := decide_eq_false c155
     clear c155
     have H' := Aside0.mk H
     clear H
     have hcz156_0 : w77.cell? ⟨gb1290, 0, none⟩ = some (.int .i64 t1286) := (blk_cell BK1290.out 0).trans rfl
     have hcz156_1 : w77.cell? ⟨gb1290, 1, none⟩ = some (.slice Ao46 t1287.length co46) := (blk_cell BK1290.out 1).trans rfl
     have hfz156_0 := blk_frozen BK1290.out 0
     have hfz156_1 := blk_frozen BK1290.out 1
     go_wp2_with (first | ((with_reducible refine gate_callee (f := 63) rfl ?_); refine gl_ (some 215) rfl rfl Try.func63 (by kernel_rfl) rfl #[.agg #[.int .i64 t1286, .slice Ao46 t1287.length co46], .slice Ao71 t1291.length co71] rfl ?_; (with_reducible refine (impl_PlayTakes.calls k t1286 _ _ t1287 _ _ t1291 t1328 t1329 true _ ?side1 ?side2 ?side3 ?side4 A79.out).mono ?_); (case side1 => exact Cl_ (Kd.R_reads' HO1289.out).2.2); (case side2 => exact (Kd.R_reads' HO1289.out).2.1); (case side3 => exact Cl_ (Kd.R_reads' HO1293.out).2.2); (case side4 => exact (Kd.R_reads' HO1293.out).2.1); rintro e w157 ⟨v1330, rfl, ho0, hb⟩; refine ⟨_, rfl, ?_⟩; have HO1331 := Aside0.mk (Kd.R_lower (Kd.R_new' (Kd.R_new' (Kd.R_new' (Kd.R_new' (Kd.R_new' ho0 (Kd.R_lt (Rl_ HO1289.out))) (Kd.R_lt (Rl_ HO1293.out))) (Kd.R_lt (Rl_ HO1297.out))) (Kd.R_lt (Rl_ HO1305.out))) (Kd.R_lt (Rl_ HO1309.out))) (below_size (Bl_ HB))); replace HO1289 := Aside0.mk (Kd.R_elder' (Rl_ HO1289.out) (Kd.R_base ho0) hb); replace HO1293 := Aside0.mk (Kd.R_elder' (Rl_ HO1293.out) (Kd.R_base ho0) hb); replace HO1297 := Aside0.mk (Kd.R_elder' (Rl_ HO1297.out) (Kd.R_base ho0) hb); replace HO1305 := Aside0.mk (Kd.R_elder' (Rl_ HO1305.out) (Kd.R_base ho0) hb); replace HO1309 := Aside0.mk (Kd.R_elder' (Rl_ HO1309.out) (Kd.R_base ho0) hb); replace BK1290 := blkB_ BK1290 hb; replace HB := Aside0.mk (below_step (Bl_ HB) hb); (try clear hb); (try clear hb2); (try clear hk); (try clear hi); (try clear ho0)) | ((with_reducible refine gate_dst (N := 30) rfl ?_); (try (refine gate_guard (by rfl) ?_; dsimp only)); refine box_event ?hg (N := 30) ?hd (cs := #[.int .i64 0, .slice none 0 0]) (t := 26) ?hr ?_; (case hd => rfl); (case hg => rfl); (case hr => first | (go_simp; done) | (go_simp; rfl)); intro gb1333 hg w158 hbox hb; replace HO1289 := Aside0.mk (Kd.R_below (Rl_ HO1289.out) hb); replace HO1293 := Aside0.mk (Kd.R_below (Rl_ HO1293.out) hb); replace HO1297 := Aside0.mk (Kd.R_below (Rl_ HO1297.out) hb); replace HO1305 := Aside0.mk (Kd.R_below (Rl_ HO1305.out) hb); replace HO1309 := Aside0.mk (Kd.R_below (Rl_ HO1309.out) hb); replace HO1331 := Aside0.mk (Kd.R_below (Rl_ HO1331.out) hb); have BK1333 := Aside0.mk (hbox); have GW1333 := Aside0.mk ((by rw [hg]; exact (below_size (Bl_ HB)) : w.heap.size ≤ gb1333)); have GE1333 := Aside0.mk ((by rw [hg]; exact (below_size (Bl_ HB)) : w.heap.size ≤ gb1333)); replace HB := Aside0.mk (below_step (Bl_ HB) hb); have NB1290_1333 := nbl_ BK1290 hg; have NB1333_1290 := nbg_ BK1290 hg; replace BK1290 := blkB_ BK1290 hb; clear hb hbox hg; have hnb159 := NB1333_1290.out; have hnc159 := NB1290_1333.out; have hcz160_0 : w158.cell? ⟨gb1333, 0, none⟩ = some (.int .i64 0) := (blk_cell BK1333.out 0).trans rfl; have hcz160_1 : w158.cell? ⟨gb1333, 1, none⟩ = some (.slice none 0 0) := (blk_cell BK1333.out 1).trans rfl; have hfz160_0 := blk_frozen BK1333.out 0; have hfz160_1 := blk_frozen BK1333.out 1; obtain ⟨Ao161, co161, eo161⟩ := Kd.R_slice HO1331.out; subst eo161) | (go_at_call 61; (with_reducible refine (impl_IsTaking.calls k t1328 _ _ t1329 false _ ?side1 ?side2 A151.out).mono ?_); (case side1 => refine (Kd.R_reads' (e := 3) (base := w.heap.size) (ok := fun k_ => (((((True ∧ some k_ ≠ (.slice Ao46 t1287.length co46 : Value).ownBlock) ∧ some k_ ≠ (.slice Ao71 t1291.length co71 : Value).ownBlock) ∧ some k_ ≠ (.slice Ao72 t1295.length co72 : Value).ownBlock) ∧ some k_ ≠ (.slice Ao73 t1303.length co73 : Value).ownBlock) ∧ some k_ ≠ (.slice Ao74 t1307.length co74 : Value).ownBlock)) (n := t1329.length) (c := co161) ?_).2.2; exact (Rl_ (Rf2_ HO1331.out BK1333.out (by decide) (.int .i64 t1328) (.slice Ao161 t1329.length co161)))); (case side2 => exact (Kd.R_reads' HO1331.out).2.1); rintro e w162 ⟨rfl, hb⟩; replace HO1289 := Aside0.mk (Kd.R_below (Rl_ (Rf2_ HO1289.out BK1333.out (by decide) (.int .i64 t1328) (.slice Ao161 t1329.length co161))) hb); replace HO1293 := Aside0.mk (Kd.R_below (Rl_ (Rf2_ HO1293.out BK1333.out (by decide) (.int .i64 t1328) (.slice Ao161 t1329.length co161))) hb); replace HO1297 := Aside0.mk (Kd.R_below (Rl_ (Rf2_ HO1297.out BK1333.out (by decide) (.int .i64 t1328) (.slice Ao161 t1329.length co161))) hb); replace HO1305 := Aside0.mk (Kd.R_below (Rl_ (Rf2_ HO1305.out BK1333.out (by decide) (.int .i64 t1328) (.slice Ao161 t1329.length co161))) hb); replace HO1309 := Aside0.mk (Kd.R_below (Rl_ (Rf2_ HO1309.out BK1333.out (by decide) (.int .i64 t1328) (.slice Ao161 t1329.length co161))) hb); replace HO1331 := Aside0.mk (Kd.R_below (Rl_ (Rf2_ HO1331.out BK1333.out (by decide) (.int .i64 t1328) (.slice Ao161 t1329.length co161))) hb); replace BK1290 := blkF_ BK1290 NB1290_1333 hb; replace BK1333 := Aside0.mk (blk_below (g := gb1333) (o := .cells #[.int .i64 t1328, .slice Ao161 t1329.length co161] 26 (0, 0)) (by (with_reducible repeat (first | refine blk_drewN ?_ _ | refine blk_drew ?_ | refine blk_alloc ?_ _)); refine blk_put (cs := #[.int .i64 t1328, .slice none 0 0]) ?_ 1 _ rfl; (with_reducible repeat (first | refine blk_drewN ?_ _ | refine blk_drew ?_ | refine blk_alloc ?_ _)); refine blk_put (cs := #[.int .i64 0, .slice none 0 0]) ?_ 0 _ rfl; (with_reducible repeat (first | refine blk_drewN ?_ _ | refine blk_drew ?_ | refine blk_alloc ?_ _)); exact BK1333.out) hb); replace HB := Aside0.mk (below_step (Bl_ HB) hb); (try clear hb); (try clear hb2); (try clear hk); (try clear hi)))
     go_loopg [270] k (fun kq v270 w' => ∃ (x270_1 : Int), v270 = .int .i64 x270_1 ∧ Aside0 (laws_FnTakesPlayed.l0 kq l1 t1291 t1311 t1303 (t1303.length : Int) x270_1 t1286 t1287 = some r) ∧ Aside0 (kq ≤ k) ∧ Aside0 (Kd.R (Kd.int .i64) 3 w' w.heap.size (fun k_ => some k_ ≠ ((.slice Ao73 t1303.length co73) : Value).ownBlock ∧ some k_ ≠ ((.slice Ao46 t1287.length co46) : Value).ownBlock) (.slice Ao71 t1291.length co71) t1291) ∧ Aside0 (Kd.R (Kd.int .i64) 3 w' w.heap.size (fun k_ => some k_ ≠ ((.slice Ao71 t1291.length co71) : Value).ownBlock ∧ some k_ ≠ ((.slice Ao46 t1287.length co46) : Value).ownBlock) (.slice Ao73 t1303.length co73) t1303) ∧ Aside0 (Kd.R (Kd.int .i64) 3 w' w.heap.size (fun k_ => some k_ ≠ ((.slice Ao71 t1291.length co71) : Value).ownBlock ∧ some k_ ≠ ((.slice Ao73 t1303.length co73) : Value).ownBlock) (.slice Ao46 t1287.length co46) t1287) ∧ Aside0 (w'.heap[gb1290]? = some (.cells #[.int .i64 t1286, (.slice Ao46 t1287.length co46)] 26 (0, 0))) ∧ Aside0 (Below w.heap.size w w'))
     case atStart => exact ⟨(0), (by first | rfl | (simp; done) | (simp [*]; done)), H', ⟨Nat.le_refl _⟩, ⟨Rl_ (Kd.R_mono HO1293.out (fun _ hk => ⟨hk.1.1.2, hk.1.1.1.1.2⟩))⟩, ⟨Rl_ (Kd.R_mono HO1305.out (fun _ hk => ⟨hk.1.1.1.2, hk.1.1.1.1.2⟩))⟩, ⟨Rl_ (Kd.R_mono HO1289.out (fun _ hk => ⟨hk.1.1.1.1.2, hk.1.1.2⟩))⟩, ⟨bl_ BK1290⟩, ⟨Bl_ HB⟩⟩
     case round =>
      as_aux_lemma =>
       clear H'
       try clear c1
       try clear p1
       try clear q1
       try clear hx1
       try clear p2
       try clear c5
       try clear c6
       try clear p6
       try clear c8
       try clear c10
       try clear c11
       try clear c12
       try clear c13
       try clear p13
       try clear q13
       try clear hx13
       try clear c14
       try clear q14
       try clear c15
       try clear c51
       try clear c55
       try clear c61
       try clear c63
       try clear p64
       try clear c83
       try clear c84
       try clear c86
       try clear c87
       try clear c100
       try clear c100b0
       try clear c101
       try clear c102
       try clear c104
       try clear c106
       try clear c108
       try clear c109
       try clear c116
       try clear c128
       try clear c132
       try clear c132b0
       try clear c132b1
       try clear c133
       try clear c133b0
       try clear c133b1
       try clear p133
       try clear q133
       try clear hx133
       try clear c136
       try clear c137
       try clear c138
       try clear c138b0
       try clear c138b1
       try clear q140
       try clear c147
       try clear c150
       try clear c152
       try clear c153
       try clear c153b0
       try clear c154
       try clear c154b0
       try clear c155
       try clear c155b0
       try clear c159
       try clear hcz110_0
       try clear hcz110_1
       try clear hcz117_0
       try clear hcz117_1
       try clear hcz120_0
       try clear hcz120_1
       try clear hcz122_0
       try clear hcz122_1
       try clear hcz129_0
       try clear hcz129_1
       try clear hcz148_0
       try clear hcz148_1
       try clear hcz156_0
       try clear hcz156_1
       try clear hcz160_0
       try clear hcz160_1
       try clear hfz110_0
       try clear hfz110_1
       try clear hfz117_0
       try clear hfz117_1
       try clear hfz120_0
       try clear hfz120_1
       try clear hfz122_0
       try clear hfz122_1
       try clear hfz129_0
       try clear hfz129_1
       try clear hfz148_0
       try clear hfz148_1
       try clear hfz156_0
       try clear hfz156_1
       try clear hfz160_0
       try clear hfz160_1
       try clear hx1338_0
       try clear p1338
       try clear q1338
       try clear q140
       obtain ⟨x270_1, rfl, HA, HK1, HO_6, HO_268, HO_1291001, BK1290, HB⟩ := hrel
       cases gk with
       | zero => exact absurd HA.out (by simp [laws_FnTakesPlayed.l0])
       | succ k1 =>
        have H := HA.out
        clear HA
        simp only [laws_FnTakesPlayed.l0] at H
        by_cases c163 : x270_1 < (t1303.length : Int)
        ·rw [if_pos c163] at H
         have c163b0 : decide (x270_1 < (t1303.length : Int)) = true := decide_eq_true c163
         clear c163
         by_cases c164 : 0 ≤ x270_1
         rotate_left
         ·rw [if_neg c164] at H
          exact absurd H (by simp)
         rw [if_pos c164] at H
         have c164b0 : decide (0 ≤ x270_1) = true := decide_eq_true c164
         clear c164
         by_cases c165 : x270_1 < (t1303.length : Int)
         rotate_left
         ·rw [if_neg c165] at H
          exact absurd H (by simp)
         rw [if_pos c165] at H
         have c165b0 : decide (x270_1 < (t1303.length : Int)) = true := decide_eq_true c165
         clear c165
         obtain ⟨y1339, hy1339⟩ : ∃ y_ : List Int, y_ = (([rd t1303 x270_1] : List Int)) := ⟨_, rfl⟩
         replace H : ((impl_PlayTakes.f k1 t1286 t1287 y1339).bind fun bt1342 => (if bt1342.2.2 = true then ((impl_IsTaking.f k1 bt1342.1 bt1342.2.1).bind fun t1348 => (if t1348 = true then ((impl_TakeWinner.f k1 bt1342.1 bt1342.2.1).bind fun bt1349 => (if bt1349.2 = true then (if bt1349.1 = true then (none) else (laws_FnTakesPlayed.l0 k1 l1 t1291 t1311 t1303 (t1303.length : Int) (wrap64 (x270_1 + 1)) t1286 t1287)) else (none))) else (laws_FnTakesPlayed.l0 k1 l1 t1291 t1311 t1303 (t1303.length : Int) (wrap64 (x270_1 + 1)) t1286 t1287))) else (none))) = some r := by first | (rw [hy1339]; with_reducible exact H) | (have H2_ := (Option.bind_some _ _).symm.trans H; rw [hy1339]; with_reducible exact H2_) | (have H2_ := (Option.bind_some _ _).symm.trans H; with_reducible exact H2_) | with_reducible exact H | (rw [hy1339]; exact H) | exact H
         have Ny1339 := Aside0.mk hy1339
         clear hy1339
         replace H := Option.bind_eq_some_iff.mp H
         obtain ⟨⟨t1342, t1343, t1346⟩, A1660, H⟩ := H
         (try dsimp only at H)
         have A166 := Aside0.mk A1660
         clear A1660
         by_cases c167 : t1346 = true
         rotate_left
         ·replace c167 := Bool.eq_false_iff.mpr c167
          subst c167
          rw [if_neg (show ¬ (false = true) by decide)] at H
          exact absurd H (by simp)
         subst c167
         rw [if_pos rfl] at H
         replace H := Option.bind_eq_some_iff.mp H
         obtain ⟨t1348, A1680, H⟩ := H
         (try dsimp only at H)
         have A168 := Aside0.mk A1680
         clear A1680
         by_cases c169 : t1348 = true
         ·subst c169
          rw [if_pos rfl] at H
          replace H := Option.bind_eq_some_iff.mp H
          obtain ⟨⟨t1349, t1350⟩, A1700, H⟩ := H
          (try dsimp only at H)
          have A170 := Aside0.mk A1700
          clear A1700
          by_cases c171 : t1350 = true
          rotate_left
          ·replace c171 := Bool.eq_false_iff.mpr c171
           subst c171
           rw [if_neg (show ¬ (false = true) by decide)] at H
           exact absurd H (by simp)
          subst c171
          rw [if_pos rfl] at H
          by_cases c172 : t1349 = true
          ·subst c172
           rw [if_pos rfl] at H
           exact absurd H (by simp)
          replace c172 := Bool.eq_false_iff.mpr c172
          subst c172
          rw [if_neg (show ¬ (false = true) by decide)] at H
          have H' := Aside0.mk H
          clear H
          have p1338 : 0 ≤ (x270_1 : Int) := of_decide_eq_true (by first | (with_reducible assumption) | assumption)
          have q1338 : x270_1 < (t1303.length : Int) := of_decide_eq_true (by first | (with_reducible assumption) | assumption)
          obtain ⟨ad1338, e1338, hx1338_0⟩ := Kd.at_int (Kd.R_reads' HO_268.out).2.2 x270_1 p1338 q1338
          cases e1338
          replace p1338 := eq_true p1338
          replace q1338 := eq_true q1338
          have hcz173_0 : wr.cell? ⟨gb1290, 0, none⟩ = some (.int .i64 t1286) := (blk_cell BK1290.out 0).trans rfl
          have hcz173_1 : wr.cell? ⟨gb1290, 1, none⟩ = some (.slice Ao46 t1287.length co46) := (blk_cell BK1290.out 1).trans rfl
          have hfz173_0 := blk_frozen BK1290.out 0
          have hfz173_1 := blk_frozen BK1290.out 1
          go_wp2_with (first | ((with_reducible refine gate_dst (N := 277) rfl ?_); (try (refine gate_guard (by rfl) ?_; dsimp only)); refine Kd.R_lit (Kd.int .i64) _ 3 ?hg (N := 277) ?hd (xs := ([rd t1303 x270_1] : List Int)) (inner := [.int .i64 (rd t1303 x270_1)]) (ok := fun _ => True) (okp := fun _ => True) ?hr ?hp (fun _ hk => hk) trivial (Below.refl _ _) (Nat.le_refl _) (by simp) ?_; (case hd => rfl); (case hg => rfl); (case hr => first | (go_simp; done) | (go_simp; rfl)); (case hp => exact (Reps.one (show Kd.M (Kd.int .i64) _ _ _ (rd t1303 x270_1) [.int .i64 (rd t1303 x270_1)] from rfl) (Reps.none _ _))); intro v1340 w174 ho175 hb hg_ hnew_; clear hg_ hnew_; (first | rw [← Ny1339.out] at ho175 | (simp only [Int.reduceToNat] at ho175; rw [← Ny1339.out] at ho175)); have HO1341 := Aside0.mk (Kd.R_lower (Kd.R_new' (Kd.R_new' (Kd.R_new' ho175 (Kd.R_lt (Rl_ HO_6.out))) (Kd.R_lt (Rl_ HO_268.out))) (Kd.R_lt (Rl_ HO_1291001.out))) (below_size (Bl_ HB))); replace HO_6 := Aside0.mk (Kd.R_elder' (Rl_ HO_6.out) (Kd.R_base ho175) hb); replace HO_268 := Aside0.mk (Kd.R_elder' (Rl_ HO_268.out) (Kd.R_base ho175) hb); replace HO_1291001 := Aside0.mk (Kd.R_elder' (Rl_ HO_1291001.out) (Kd.R_base ho175) hb); replace BK1290 := blkB_ BK1290 hb; replace HB := Aside0.mk (below_step (Bl_ HB) hb); clear hb ho175; obtain ⟨Ao176, co176, eo176⟩ := Kd.R_slice HO1341.out; subst eo176) | ((with_reducible refine gate_callee (f := 63) rfl ?_); refine gl_ (some 278) rfl rfl Try.func63 (by kernel_rfl) rfl #[.agg #[.int .i64 t1286, .slice Ao46 t1287.length co46], .slice Ao176 y1339.length co176] rfl ?_; (with_reducible refine (impl_PlayTakes.calls k1 t1286 _ _ t1287 _ _ y1339 t1342 t1343 true _ ?side1 ?side2 ?side3 ?side4 A166.out).mono ?_); (case side1 => exact Cl_ (Kd.R_reads' HO_1291001.out).2.2); (case side2 => exact (Kd.R_reads' HO_1291001.out).2.1); (case side3 => exact Cl_ (Kd.R_reads' HO1341.out).2.2); (case side4 => exact (Kd.R_reads' HO1341.out).2.1); rintro e w177 ⟨v1344, rfl, ho0, hb⟩; refine ⟨_, rfl, ?_⟩; have HO1345 := Aside0.mk (Kd.R_lower (Kd.R_new' (Kd.R_new' (Kd.R_new' (Kd.R_new' ho0 (Kd.R_lt (Rl_ HO_6.out))) (Kd.R_lt (Rl_ HO_268.out))) (Kd.R_lt (Rl_ HO_1291001.out))) (Kd.R_lt (Rl_ HO1341.out))) (below_size (Bl_ HB))); replace HO_6 := Aside0.mk (Kd.R_elder' (Rl_ HO_6.out) (Kd.R_base ho0) hb); replace HO_268 := Aside0.mk (Kd.R_elder' (Rl_ HO_268.out) (Kd.R_base ho0) hb); replace HO_1291001 := Aside0.mk (Kd.R_elder' (Rl_ HO_1291001.out) (Kd.R_base ho0) hb); replace HO1341 := Aside0.mk (Kd.R_elder' (Rl_ HO1341.out) (Kd.R_base ho0) hb); replace BK1290 := blkB_ BK1290 hb; replace HB := Aside0.mk (below_step (Bl_ HB) hb); (try clear hb); (try clear hb2); (try clear hk); (try clear hi); (try clear ho0)) | ((with_reducible refine gate_dst (N := 34) rfl ?_); (try (refine gate_guard (by rfl) ?_; dsimp only)); refine box_event ?hg (N := 34) ?hd (cs := #[.int .i64 0, .slice none 0 0]) (t := 26) ?hr ?_; (case hd => rfl); (case hg => rfl); (case hr => first | (go_simp; done) | (go_simp; rfl)); intro gb1347 hg w178 hbox hb; replace HO_6 := Aside0.mk (Kd.R_below (Rl_ HO_6.out) hb); replace HO_268 := Aside0.mk (Kd.R_below (Rl_ HO_268.out) hb); replace HO_1291001 := Aside0.mk (Kd.R_below (Rl_ HO_1291001.out) hb); replace HO1341 := Aside0.mk (Kd.R_below (Rl_ HO1341.out) hb); replace HO1345 := Aside0.mk (Kd.R_below (Rl_ HO1345.out) hb); have BK1347 := Aside0.mk (hbox); have GW1347 := Aside0.mk ((by rw [hg]; exact (below_size (Bl_ HB)) : w.heap.size ≤ gb1347)); have GE1347 := Aside0.mk ((by rw [hg]; exact (below_size (Bl_ HB)) : w.heap.size ≤ gb1347)); replace HB := Aside0.mk (below_step (Bl_ HB) hb); have NB1290_1347 := nbl_ BK1290 hg; have NB1347_1290 := nbg_ BK1290 hg; replace BK1290 := blkB_ BK1290 hb; clear hb hbox hg; have hnb179 := NB1347_1290.out; have hnc179 := NB1290_1347.out; have hcz180_0 : w178.cell? ⟨gb1347, 0, none⟩ = some (.int .i64 0) := (blk_cell BK1347.out 0).trans rfl; have hcz180_1 : w178.cell? ⟨gb1347, 1, none⟩ = some (.slice none 0 0) := (blk_cell BK1347.out 1).trans rfl; have hfz180_0 := blk_frozen BK1347.out 0; have hfz180_1 := blk_frozen BK1347.out 1; obtain ⟨Ao181, co181, eo181⟩ := Kd.R_slice HO1345.out; subst eo181) | ((with_reducible refine gate_callee (f := 61) rfl ?_); refine gl_ (some 284) rfl rfl Try.func61 (by kernel_rfl) rfl #[.agg #[.int .i64 t1342, .slice Ao181 t1343.length co181]] rfl ?_; (with_reducible refine (impl_IsTaking.calls k1 t1342 _ _ t1343 true _ ?side1 ?side2 A168.out).mono ?_); (case side1 => refine (Kd.R_reads' (e := 3) (base := w.heap.size) (ok := fun k_ => ((((True ∧ some k_ ≠ (.slice Ao71 t1291.length co71 : Value).ownBlock) ∧ some k_ ≠ (.slice (some ad1338) t1303.length co73 : Value).ownBlock) ∧ some k_ ≠ (.slice Ao46 t1287.length co46 : Value).ownBlock) ∧ some k_ ≠ (.slice Ao176 y1339.length co176 : Value).ownBlock)) (n := t1343.length) (c := co181) ?_).2.2; exact (Rl_ (Rf2_ HO1345.out BK1347.out (by decide) (.int .i64 t1342) (.slice Ao181 t1343.length co181)))); (case side2 => exact (Kd.R_reads' HO1345.out).2.1); rintro e w182 ⟨rfl, hb⟩; refine ⟨_, rfl, ?_⟩; replace HO_6 := Aside0.mk (Kd.R_below (Rl_ (Rf2_ HO_6.out BK1347.out (by decide) (.int .i64 t1342) (.slice Ao181 t1343.length co181))) hb); replace HO_268 := Aside0.mk (Kd.R_below (Rl_ (Rf2_ HO_268.out BK1347.out (by decide) (.int .i64 t1342) (.slice Ao181 t1343.length co181))) hb); replace HO_1291001 := Aside0.mk (Kd.R_below (Rl_ (Rf2_ HO_1291001.out BK1347.out (by decide) (.int .i64 t1342) (.slice Ao181 t1343.length co181))) hb); replace HO1341 := Aside0.mk (Kd.R_below (Rl_ (Rf2_ HO1341.out BK1347.out (by decide) (.int .i64 t1342) (.slice Ao181 t1343.length co181))) hb); replace HO1345 := Aside0.mk (Kd.R_below (Rl_ (Rf2_ HO1345.out BK1347.out (by decide) (.int .i64 t1342) (.slice Ao181 t1343.length co181))) hb); replace BK1290 := blkF_ BK1290 NB1290_1347 hb; replace BK1347 := Aside0.mk (blk_below (g := gb1347) (o := .cells #[.int .i64 t1342, .slice Ao181 t1343.length co181] 26 (0, 0)) (by (with_reducible repeat (first | refine blk_drewN ?_ _ | refine blk_drew ?_ | refine blk_alloc ?_ _)); refine blk_put (cs := #[.int .i64 t1342, .slice none 0 0]) ?_ 1 _ rfl; (with_reducible repeat (first | refine blk_drewN ?_ _ | refine blk_drew ?_ | refine blk_alloc ?_ _)); refine blk_put (cs := #[.int .i64 0, .slice none 0 0]) ?_ 0 _ rfl; (with_reducible repeat (first | refine blk_drewN ?_ _ | refine blk_drew ?_ | refine blk_alloc ?_ _)); exact BK1347.out) hb); replace HB := Aside0.mk (below_step (Bl_ HB) hb); (try clear hb); (try clear hb2); (try clear hk); (try clear hi); have hcz183_0 : w182.cell? ⟨gb1347, 0, none⟩ = some (.int .i64 t1342) := (blk_cell BK1347.out 0).trans rfl; have hcz183_1 : w182.cell? ⟨gb1347, 1, none⟩ = some (.slice Ao181 t1343.length co181) := (blk_cell BK1347.out 1).trans rfl; have hfz183_0 := blk_frozen BK1347.out 0; have hfz183_1 := blk_frozen BK1347.out 1) | ((with_reducible refine gate_callee (f := 51) rfl ?_); refine gl_ (some 287) rfl rfl Try.func51 (by kernel_rfl) rfl #[.agg #[.int .i64 t1342, .slice Ao181 t1343.length co181]] rfl ?_; (with_reducible refine (impl_TakeWinner.calls k1 t1342 _ _ t1343 false true _ ?side1 ?side2 A170.out).mono ?_); (case side1 => exact Cl_ (Kd.R_reads' HO1345.out).2.2); (case side2 => exact (Kd.R_reads' HO1345.out).2.1); rintro e w184 ⟨rfl, hb⟩; refine ⟨_, rfl, ?_⟩; replace HO_6 := Aside0.mk (Kd.R_below (Rl_ HO_6.out) hb); replace HO_268 := Aside0.mk (Kd.R_below (Rl_ HO_268.out) hb); replace HO_1291001 := Aside0.mk (Kd.R_below (Rl_ HO_1291001.out) hb); replace HO1341 := Aside0.mk (Kd.R_below (Rl_ HO1341.out) hb); replace HO1345 := Aside0.mk (Kd.R_below (Rl_ HO1345.out) hb); replace BK1290 := blkB_ BK1290 hb; replace BK1347 := blkB_ BK1347 hb; replace HB := Aside0.mk (below_step (Bl_ HB) hb); (try clear hb); (try clear hb2); (try clear hk); (try clear hi)))
          go_roundg k1
          case measure => have := HK1.out; omega
          case rel => exact ⟨(wrap64 (x270_1 + 1)), (by first | rfl | (simp; done) | (simp [*]; done)), H', ⟨by have := HK1.out; omega⟩, ⟨Rl_ (Kd.R_mono HO_6.out (fun _ hk => ⟨hk.1.1.1, hk.1.1.2⟩))⟩, ⟨Rl_ (Kd.R_mono HO_268.out (fun _ hk => ⟨hk.1.1.1, hk.1.1.2⟩))⟩, ⟨Rl_ (Kd.R_mono HO_1291001.out (fun _ hk => ⟨hk.1.1.1, hk.1.1.2⟩))⟩, ⟨bl_ BK1290⟩, ⟨Bl_ HB⟩⟩
         replace c169 := Bool.eq_false_iff.mpr c169
         subst c169
         rw [if_neg (show ¬ (false = true) by decide)] at H
         have H' := Aside0.mk H
         clear H
         have p1338 : 0 ≤ (x270_1 : Int) := of_decide_eq_true (by first | (with_reducible assumption) | assumption)
         have q1338 : x270_1 < (t1303.length : Int) := of_decide_eq_true (by first | (with_reducible assumption) | assumption)
         obtain ⟨ad1338, e1338, hx1338_0⟩ := Kd.at_int (Kd.R_reads' HO_268.out).2.2 x270_1 p1338 q1338
         cases e1338
         replace p1338 := eq_true p1338
         replace q1338 := eq_true q1338
         have hcz185_0 : wr.cell? ⟨gb1290, 0, none⟩ = some (.int .i64 t1286) := (blk_cell BK1290.out 0).trans rfl
         have hcz185_1 : wr.cell? ⟨gb1290, 1, none⟩ = some (.slice Ao46 t1287.length co46) := (blk_cell BK1290.out 1).trans rfl
         have hfz185_0 := blk_frozen BK1290.out 0
         have hfz185_1 := blk_frozen BK1290.out 1
         go_wp2_with (first | ((with_reducible refine gate_dst (N := 277) rfl ?_); (try (refine gate_guard (by rfl) ?_; dsimp only)); refine Kd.R_lit (Kd.int .i64) _ 3 ?hg (N := 277) ?hd (xs := ([rd t1303 x270_1] : List Int)) (inner := [.int .i64 (rd t1303 x270_1)]) (ok := fun _ => True) (okp := fun _ => True) ?hr ?hp (fun _ hk => hk) trivial (Below.refl _ _) (Nat.le_refl _) (by simp) ?_; (case hd => rfl); (case hg => rfl); (case hr => first | (go_simp; done) | (go_simp; rfl)); (case hp => exact (Reps.one (show Kd.M (Kd.int .i64) _ _ _ (rd t1303 x270_1) [.int .i64 (rd t1303 x270_1)] from rfl) (Reps.none _ _))); intro v1340 w186 ho187 hb hg_ hnew_; clear hg_ hnew_; (first | rw [← Ny1339.out] at ho187 | (simp only [Int.reduceToNat] at ho187; rw [← Ny1339.out] at ho187)); have HO1341 := Aside0.mk (Kd.R_lower (Kd.R_new' (Kd.R_new' (Kd.R_new' ho187 (Kd.R_lt (Rl_ HO_6.out))) (Kd.R_lt (Rl_ HO_268.out))) (Kd.R_lt (Rl_ HO_1291001.out))) (below_size (Bl_ HB))); replace HO_6 := Aside0.mk (Kd.R_elder' (Rl_ HO_6.out) (Kd.R_base ho187) hb); replace HO_268 := Aside0.mk (Kd.R_elder' (Rl_ HO_268.out) (Kd.R_base ho187) hb); replace HO_1291001 := Aside0.mk (Kd.R_elder' (Rl_ HO_1291001.out) (Kd.R_base ho187) hb); replace BK1290 := blkB_ BK1290 hb; replace HB := Aside0.mk (below_step (Bl_ HB) hb); clear hb ho187; obtain ⟨Ao188, co188, eo188⟩ := Kd.R_slice HO1341.out; subst eo188) | ((with_reducible refine gate_callee (f := 63) rfl ?_); refine gl_ (some 278) rfl rfl Try.func63 (by kernel_rfl) rfl #[.agg #[.int .i64 t1286, .slice Ao46 t1287.length co46], .slice Ao188 y1339.length co188] rfl ?_; (with_reducible refine (impl_PlayTakes.calls k1 t1286 _ _ t1287 _ _ y1339 t1342 t1343 true _ ?side1 ?side2 ?side3 ?side4 A166.out).mono ?_); (case side1 => exact Cl_ (Kd.R_reads' HO_1291001.out).2.2); (case side2 => exact (Kd.R_reads' HO_1291001.out).2.1); (case side3 => exact Cl_ (Kd.R_reads' HO1341.out).2.2); (case side4 => exact (Kd.R_reads' HO1341.out).2.1); rintro e w189 ⟨v1344, rfl, ho0, hb⟩; refine ⟨_, rfl, ?_⟩; have HO1345 := Aside0.mk (Kd.R_lower (Kd.R_new' (Kd.R_new' (Kd.R_new' (Kd.R_new' ho0 (Kd.R_lt (Rl_ HO_6.out))) (Kd.R_lt (Rl_ HO_268.out))) (Kd.R_lt (Rl_ HO_1291001.out))) (Kd.R_lt (Rl_ HO1341.out))) (below_size (Bl_ HB))); replace HO_6 := Aside0.mk (Kd.R_elder' (Rl_ HO_6.out) (Kd.R_base ho0) hb); replace HO_268 := Aside0.mk (Kd.R_elder' (Rl_ HO_268.out) (Kd.R_base ho0) hb); replace HO_1291001 := Aside0.mk (Kd.R_elder' (Rl_ HO_1291001.out) (Kd.R_base ho0) hb); replace HO1341 := Aside0.mk (Kd.R_elder' (Rl_ HO1341.out) (Kd.R_base ho0) hb); replace BK1290 := blkB_ BK1290 hb; replace HB := Aside0.mk (below_step (Bl_ HB) hb); (try clear hb); (try clear hb2); (try clear hk); (try clear hi); (try clear ho0)) | ((with_reducible refine gate_dst (N := 34) rfl ?_); (try (refine gate_guard (by rfl) ?_; dsimp only)); refine box_event ?hg (N := 34) ?hd (cs := #[.int .i64 0, .slice none 0 0]) (t := 26) ?hr ?_; (case hd => rfl); (case hg => rfl); (case hr => first | (go_simp; done) | (go_simp; rfl)); intro gb1347 hg w190 hbox hb; replace HO_6 := Aside0.mk (Kd.R_below (Rl_ HO_6.out) hb); replace HO_268 := Aside0.mk (Kd.R_below (Rl_ HO_268.out) hb); replace HO_1291001 := Aside0.mk (Kd.R_below (Rl_ HO_1291001.out) hb); replace HO1341 := Aside0.mk (Kd.R_below (Rl_ HO1341.out) hb); replace HO1345 := Aside0.mk (Kd.R_below (Rl_ HO1345.out) hb); have BK1347 := Aside0.mk (hbox); have GW1347 := Aside0.mk ((by rw [hg]; exact (below_size (Bl_ HB)) : w.heap.size ≤ gb1347)); have GE1347 := Aside0.mk ((by rw [hg]; exact (below_size (Bl_ HB)) : w.heap.size ≤ gb1347)); replace HB := Aside0.mk (below_step (Bl_ HB) hb); have NB1290_1347 := nbl_ BK1290 hg; have NB1347_1290 := nbg_ BK1290 hg; replace BK1290 := blkB_ BK1290 hb; clear hb hbox hg; have hnb191 := NB1347_1290.out; have hnc191 := NB1290_1347.out; have hcz192_0 : w190.cell? ⟨gb1347, 0, none⟩ = some (.int .i64 0) := (blk_cell BK1347.out 0).trans rfl; have hcz192_1 : w190.cell? ⟨gb1347, 1, none⟩ = some (.slice none 0 0) := (blk_cell BK1347.out 1).trans rfl; have hfz192_0 := blk_frozen BK1347.out 0; have hfz192_1 := blk_frozen BK1347.out 1; obtain ⟨Ao193, co193, eo193⟩ := Kd.R_slice HO1345.out; subst eo193) | ((with_reducible refine gate_callee (f := 61) rfl ?_); refine gl_ (some 284) rfl rfl Try.func61 (by kernel_rfl) rfl #[.agg #[.int .i64 t1342, .slice Ao193 t1343.length co193]] rfl ?_; (with_reducible refine (impl_IsTaking.calls k1 t1342 _ _ t1343 false _ ?side1 ?side2 A168.out).mono ?_); (case side1 => refine (Kd.R_reads' (e := 3) (base := w.heap.size) (ok := fun k_ => ((((True ∧ some k_ ≠ (.slice Ao71 t1291.length co71 : Value).ownBlock) ∧ some k_ ≠ (.slice (some ad1338) t1303.length co73 : Value).ownBlock) ∧ some k_ ≠ (.slice Ao46 t1287.length co46 : Value).ownBlock) ∧ some k_ ≠ (.slice Ao188 y1339.length co188 : Value).ownBlock)) (n := t1343.length) (c := co193) ?_).2.2; exact (Rl_ (Rf2_ HO1345.out BK1347.out (by decide) (.int .i64 t1342) (.slice Ao193 t1343.length co193)))); (case side2 => exact (Kd.R_reads' HO1345.out).2.1); rintro e w194 ⟨rfl, hb⟩; refine ⟨_, rfl, ?_⟩; replace HO_6 := Aside0.mk (Kd.R_below (Rl_ (Rf2_ HO_6.out BK1347.out (by decide) (.int .i64 t1342) (.slice Ao193 t1343.length co193))) hb); replace HO_268 := Aside0.mk (Kd.R_below (Rl_ (Rf2_ HO_268.out BK1347.out (by decide) (.int .i64 t1342) (.slice Ao193 t1343.length co193))) hb); replace HO_1291001 := Aside0.mk (Kd.R_below (Rl_ (Rf2_ HO_1291001.out BK1347.out (by decide) (.int .i64 t1342) (.slice Ao193 t1343.length co193))) hb); replace HO1341 := Aside0.mk (Kd.R_below (Rl_ (Rf2_ HO1341.out BK1347.out (by decide) (.int .i64 t1342) (.slice Ao193 t1343.length co193))) hb); replace HO1345 := Aside0.mk (Kd.R_below (Rl_ (Rf2_ HO1345.out BK1347.out (by decide) (.int .i64 t1342) (.slice Ao193 t1343.length co193))) hb); replace BK1290 := blkF_ BK1290 NB1290_1347 hb; replace BK1347 := Aside0.mk (blk_below (g := gb1347) (o := .cells #[.int .i64 t1342, .slice Ao193 t1343.length co193] 26 (0, 0)) (by (with_reducible repeat (first | refine blk_drewN ?_ _ | refine blk_drew ?_ | refine blk_alloc ?_ _)); refine blk_put (cs := #[.int .i64 t1342, .slice none 0 0]) ?_ 1 _ rfl; (with_reducible repeat (first | refine blk_drewN ?_ _ | refine blk_drew ?_ | refine blk_alloc ?_ _)); refine blk_put (cs := #[.int .i64 0, .slice none 0 0]) ?_ 0 _ rfl; (with_reducible repeat (first | refine blk_drewN ?_ _ | refine blk_drew ?_ | refine blk_alloc ?_ _)); exact BK1347.out) hb); replace HB := Aside0.mk (below_step (Bl_ HB) hb); (try clear hb); (try clear hb2); (try clear hk); (try clear hi)))
         go_roundg k1
         case measure => have := HK1.out; omega
         case rel => exact ⟨(wrap64 (x270_1 + 1)), (by first | rfl | (simp; done) | (simp [*]; done)), H', ⟨by have := HK1.out; omega⟩, ⟨Rl_ (Kd.R_mono HO_6.out (fun _ hk => ⟨hk.1.1.1, hk.1.1.2⟩))⟩, ⟨Rl_ (Kd.R_mono HO_268.out (fun _ hk => ⟨hk.1.1.1, hk.1.1.2⟩))⟩, ⟨Rl_ (Kd.R_mono HO_1291001.out (fun _ hk => ⟨hk.1.1.1, hk.1.1.2⟩))⟩, ⟨bl_ BK1290⟩, ⟨Bl_ HB⟩⟩
        rw [if_neg c163] at H
        have c163b0 : decide (x270_1 < (t1303.length : Int)) = false := decide_eq_false c163
        clear c163
        by_cases c195 : (t1291.length : Int) > 1
        ·rw [if_pos c195] at H
         have c195b0 : decide (1 < (t1291.length : Int)) = true := decide_eq_true c195
         have c195b1 : decide (1 < t1291.length) = true := decide_eq_true (by omega)
         clear c195
         by_cases c196 : 1 ≤ (t1291.length : Int)
         rotate_left
         ·rw [if_neg c196] at H
          exact absurd H (by simp)
         rw [if_pos c196] at H
         have c196b0 := eq_true c196
         have c196b1 : decide (1 ≤ (t1291.length : Int)) = true := decide_eq_true c196
         clear c196
         obtain ⟨y1351, hy1351⟩ : ∃ y_ : List Int, y_ = (t1291.take 1) := ⟨_, rfl⟩
         replace H : ((impl_PlayTakes.f k1 t1286 t1287 y1351).bind fun bt1355 => ((impl_TakeLength.f k1 bt1355.1 bt1355.2.1).bind fun bt1361 => (if bt1355.2.2 = true then (if bt1361.2 = true then (if bt1361.1 = (wrap64 (t1311 - 1)) then (laws_FnTakesPlayed.j1 k1 l1) else (none)) else (none)) else (none)))) = some r := by first | (rw [hy1351]; with_reducible exact H) | (have H2_ := (Option.bind_some _ _).symm.trans H; rw [hy1351]; with_reducible exact H2_) | (have H2_ := (Option.bind_some _ _).symm.trans H; with_reducible exact H2_) | with_reducible exact H | (rw [hy1351]; exact H) | exact H
         have Ny1351 := Aside0.mk hy1351
         clear hy1351
         replace H := Option.bind_eq_some_iff.mp H
         obtain ⟨⟨t1355, t1356, t1359⟩, A1970, H⟩ := H
         (try dsimp only at H)
         have A197 := Aside0.mk A1970
         clear A1970
         replace H := Option.bind_eq_some_iff.mp H
         obtain ⟨⟨t1361, t1362⟩, A1980, H⟩ := H
         (try dsimp only at H)
         have A198 := Aside0.mk A1980
         clear A1980
         by_cases c199 : t1359 = true
         rotate_left
         ·replace c199 := Bool.eq_false_iff.mpr c199
          subst c199
          rw [if_neg (show ¬ (false = true) by decide)] at H
          exact absurd H (by simp)
         subst c199
         rw [if_pos rfl] at H
         by_cases c200 : t1362 = true
         rotate_left
         ·replace c200 := Bool.eq_false_iff.mpr c200
          subst c200
          rw [if_neg (show ¬ (false = true) by decide)] at H
          exact absurd H (by simp)
         subst c200
         rw [if_pos rfl] at H
         by_cases c201 : t1361 = (wrap64 (t1311 - 1))
         rotate_left
         ·rw [if_neg c201] at H
          exact absurd H (by simp)
         rw [if_pos c201] at H
         have c201b0 : (t1361 == (wrap64 (t1311 - 1))) = true := beq_iff_eq.mpr c201
         have c201b1 : (t1361 != (wrap64 (t1311 - 1))) = false := bne_eq_false_iff_eq.mpr c201
         clear c201
         have H' := Aside0.mk H
         clear H
         try go_wp2
         replace HO_6 := Aside0.mk (Kd.R_drew HO_6.out)
         replace HO_268 := Aside0.mk (Kd.R_drew HO_268.out)
         replace HO_1291001 := Aside0.mk (Kd.R_drew HO_1291001.out)
         replace BK1290 := Aside0.mk (blk_drew BK1290.out)
         replace HB := Aside0.mk (below_drew1 HB.out)
         have q203 : (1 : Int) ≤ ((t1291.length : Int) : Int) := of_decide_eq_true (by first | (with_reducible assumption) | assumption)
         obtain ⟨i0203, hi0203, _, hsz203, _⟩ := info_parts info3
         have hroom203 : t1291.length ≤ co71 := (Kd.R_reads' HO_6.out).2.1
         have hC203 : Kd.C (Kd.int .i64) _ Ao71 t1291.length t1291 := (Kd.R_reads' HO_6.out).2.2
         have hcut203 := cut_to (P := Try.prog) 24 3 .i64 Try.underlying24 hi0203 Ao71 t1291.length co71 1 (by omega) q203 hroom203
         have hr203 := Kd.C_take (m := 1) hC203 (by omega)
         have hy203 : y1351.length = (1 : Int).toNat := (by rw [Ny1351.out, List.length_take]; omega)
         rw [← Ny1351.out] at hr203
         rw [← hy203] at hcut203
         have HR1354 := Aside0.mk hr203
         have HC1354 := Aside0.mk (show y1351.length ≤ co71 from by omega)
         clear hr203 hC203 hroom203 hi0203 hsz203
         have KY203 := Aside0.mk hy203
         clear hy203
         have KL203 := Aside0.mk (show 1 ≤ t1291.length from by omega)
         replace q203 := eq_true q203
         refine start_ (n := 10) (S := fun w' => w'.cell? ⟨gb1290, 0, none⟩ = some (.int .i64 t1286) ∧ w'.cell? ⟨gb1290, 1, none⟩ = some (.slice Ao46 t1287.length co46)) (ds := []) (fl_ 10 0) (by kernel_rfl) rfl rfl ⟨(blk_cell BK1290.out 0).trans rfl, (blk_cell BK1290.out 1).trans rfl⟩ (fun hHeld => ?_); refine with_tabW laws_FnTakesPlayed.tab34 laws_FnTakesPlayed.bits34 (fun HT_ HW_ => ?_)
         generalize wr.drew = w202 at HO_6 HO_268 HO_1291001 BK1290 HB HR1354 hHeld ⊢
         refine pure_ (i := 1) (N := some 301) (v := ?_) (a' := ?_) #[false, true, false, false, false, false, false, false, false, false] rfl rfl (any_of HT_.out (by kernel_rfl)) (fun _ _ _ h => h) (Or.inl ⟨by rfl, ?_⟩) ?_ ?_
         rotate_left
         ·intro w'
          go_simp
          with_reducible rfl
         rotate_left
         ·simp only [Act.put, List.setIfInBounds_toArray, List.set_cons_zero, List.set_cons_succ, i64_w, i32_w]
          rfl
         refine pure_ (i := 2) (N := some 302) (v := ?_) (a' := ?_) #[false, true, true, false, false, false, false, false, false, false] rfl rfl (any_of HT_.out (by kernel_rfl)) (fun _ _ _ h => h) (Or.inl ⟨by rfl, ?_⟩) ?_ ?_
         rotate_left
         ·intro w'
          go_simp
          with_reducible rfl
         rotate_left
         ·simp only [Act.put, List.setIfInBounds_toArray, List.set_cons_zero, List.set_cons_succ, i64_w, i32_w]
          rfl
         refine take_ (i := 0) (N := some 300) (v := ?_) (a' := ?_) (fl_ 10 3) rfl rfl (take_ofW HT_.out HW_.out (by kernel_rfl)) (fun _ _ _ h => h) (Or.inl ⟨by rfl, ?_⟩) hHeld ?_ ?_
         rotate_left
         ·rintro w' ⟨s0, s1⟩
          go_simp
          with_reducible rfl
         rotate_left
         ·simp only [Act.put, List.setIfInBounds_toArray, List.set_cons_zero, List.set_cons_succ, i64_w, i32_w]
          rfl
         refine join_ (σ := Value × Nat) 2 (fl_ 10 8) (fun s_ => [(303, .tuple #[.agg #[.int .i64 t1355, s_.1], .bool true]), (38, .pointer (some ⟨s_.2, 0, none⟩)), (299, .tuple #[.agg #[.int .i64 t1355, s_.1], .bool true]), (304, .agg #[.int .i64 t1355, s_.1]), (305, .bool true)]) (fun s_ w' => (w'.cell? ⟨gb1290, 0, none⟩ = some (.int .i64 t1286) ∧ w'.cell? ⟨gb1290, 1, none⟩ = some (.slice Ao46 t1287.length co46)) ∧ (Kd.R (Kd.int .i64) 3 w' w.heap.size (fun k_ => some k_ ≠ (.slice Ao46 t1287.length co46 : Value).ownBlock ∧ some k_ ≠ (.slice Ao73 t1303.length co73 : Value).ownBlock ∧ some k_ ≠ (.slice Ao71 t1291.length co71 : Value).ownBlock) s_.1 t1356) ∧ (Kd.R (Kd.int .i64) 3 w' w.heap.size (fun k_ => some k_ ≠ (s_.1 : Value).ownBlock ∧ some k_ ≠ (.slice Ao73 t1303.length co73 : Value).ownBlock ∧ some k_ ≠ (.slice Ao71 t1291.length co71 : Value).ownBlock) (.slice Ao46 t1287.length co46) t1287) ∧ (Kd.R (Kd.int .i64) 3 w' w.heap.size (fun k_ => some k_ ≠ (s_.1 : Value).ownBlock ∧ some k_ ≠ (.slice Ao46 t1287.length co46 : Value).ownBlock ∧ some k_ ≠ (.slice Ao71 t1291.length co71 : Value).ownBlock) (.slice Ao73 t1303.length co73) t1303) ∧ (Kd.R (Kd.int .i64) 3 w' w.heap.size (fun k_ => some k_ ≠ (s_.1 : Value).ownBlock ∧ some k_ ≠ (.slice Ao46 t1287.length co46 : Value).ownBlock ∧ some k_ ≠ (.slice Ao73 t1303.length co73 : Value).ownBlock) (.slice Ao71 t1291.length co71) t1291) ∧ (w'.heap[gb1290]? = some (.cells #[.int .i64 t1286, .slice Ao46 t1287.length co46] 26 (0, 0))) ∧ (w'.heap[s_.2]? = some (.cells #[.int .i64 0, .slice none 0 0] 26 (0, 0))) ∧ (w.heap.size ≤ s_.2) ∧ (w.heap.size ≤ s_.2) ∧ (gb1290 ≠ s_.2) ∧ (s_.2 ≠ gb1290) ∧ (Below w.heap.size w w')) ?_ ?_
         rotate_left
         ·intro hCont
          refine two_ (i := 3) (j := 7) (Ni := some 303) (Nj := some 38) (fl_ 10 4) #[true, true, true, false, false, false, false, true, false, false] rfl rfl rfl rfl (two_of HT_.out (by kernel_rfl)) (by decide) (by decide) (fun K hK => ?_) (fun K hK => ?_)
          ·skip
           refine gs_ Try.func63 (by kernel_rfl) rfl #[.agg #[.int .i64 t1286, .slice Ao46 t1287.length co46], .slice Ao71 y1351.length co71] (by rfl) rfl rfl ?_
           with_reducible refine (impl_PlayTakes.calls k1 t1286 _ _ t1287 _ _ y1351 t1355 t1356 true _ ?side1 ?side2 ?side3 ?side4 A197.out).mono ?_
           (case side1 => exact Cl_ (Kd.R_reads' HO_1291001.out).2.2)
           (case side2 => exact (Kd.R_reads' HO_1291001.out).2.1)
           (case side3 => repeat (first | exact (by repeat (first | (with_reducible exact HR1354.out) | (with_reducible refine Kd.C_alloc ?_ _) | (with_reducible refine Kd.C_drewN ?_ _) | (with_reducible refine Kd.C_drew ?_) | exact HR1354.out)) | (with_reducible refine Kd.C_alloc ?_ _) | (with_reducible refine Kd.C_drewN ?_ _) | (with_reducible refine Kd.C_drew ?_)))
           (case side4 => exact HC1354.out)
           rintro e w204 ⟨v1357, rfl, ho0, hb⟩
           refine ⟨_, rfl, ?_⟩
           have HO1358 := Aside0.mk (Kd.R_lower (Kd.R_new' (Kd.R_new' (Kd.R_new' ho0 (Kd.R_lt (Rl_ HO_6.out))) (Kd.R_lt (Rl_ HO_268.out))) (Kd.R_lt (Rl_ HO_1291001.out))) (below_size (Bl_ HB)))
           replace HO_6 := Aside0.mk (Kd.R_elder' (Rl_ HO_6.out) (Kd.R_base ho0) hb)
           replace HO_268 := Aside0.mk (Kd.R_elder' (Rl_ HO_268.out) (Kd.R_base ho0) hb)
           replace HO_1291001 := Aside0.mk (Kd.R_elder' (Rl_ HO_1291001.out) (Kd.R_base ho0) hb)
           replace BK1290 := blkB_ BK1290 hb
           replace HR1354 := Aside0.mk (Kd.C_below (by repeat (first | (with_reducible exact HR1354.out) | (with_reducible refine Kd.C_alloc ?_ _) | (with_reducible refine Kd.C_drewN ?_ _) | (with_reducible refine Kd.C_drew ?_) | exact HR1354.out)) hb)
           replace HB := Aside0.mk (below_step (Bl_ HB) hb)
           (try clear hb); (try clear hb2); (try clear hk); (try clear hi); (try clear ho0)
           refine hK.out _ _ ⟨(blk_cell BK1290.out 0).trans rfl, (blk_cell BK1290.out 1).trans rfl⟩ (fun hHeld => ?_)
           clear hK K
           refine norm_ (a' := ?_) ?_ ?_
           rotate_left
           ·show Act.put _ (some 303) _ = _
            simp only [Act.put, List.setIfInBounds_toArray, List.set_cons_zero, List.set_cons_succ, i64_w, i32_w]
            rfl
           refine pure_ (i := 4) (N := some 299) (v := ?_) (a' := ?_) (fl_ 10 5) rfl rfl (any_of HT_.out (by kernel_rfl)) (fun _ _ _ h => h) (Or.inl ⟨by rfl, ?_⟩) ?_ ?_
           rotate_left
           ·intro w'
            go_simp
            with_reducible rfl
           rotate_left
           ·simp only [Act.put, List.setIfInBounds_toArray, List.set_cons_zero, List.set_cons_succ, i64_w, i32_w]
            rfl
           refine pure_ (i := 5) (N := some 304) (v := ?_) (a' := ?_) (fl_ 10 6) rfl rfl (any_of HT_.out (by kernel_rfl)) (fun _ _ _ h => h) (Or.inl ⟨by rfl, ?_⟩) ?_ ?_
           rotate_left
           ·intro w'
            go_simp
            with_reducible rfl
           rotate_left
           ·simp only [Act.put, List.setIfInBounds_toArray, List.set_cons_zero, List.set_cons_succ, i64_w, i32_w]
            rfl
           refine pure_ (i := 6) (N := some 305) (v := ?_) (a' := ?_) (fl_ 10 7) rfl rfl (any_of HT_.out (by kernel_rfl)) (fun _ _ _ h => h) (Or.inl ⟨by rfl, ?_⟩) ?_ ?_
           rotate_left
           ·intro w'
            go_simp
            with_reducible rfl
           rotate_left
           ·simp only [Act.put, List.setIfInBounds_toArray, List.set_cons_zero, List.set_cons_succ, i64_w, i32_w]
            rfl
           refine one_ (i := 7) (N := some 38) (fl_ 10 8) rfl rfl (one_of HT_.out (by kernel_rfl)) (by decide) (fun K hK => ?_)
           refine box_step ?hg (N := 38) ?hd (cs := #[.int .i64 0, .slice none 0 0]) (t := 26) ?hr ?_; (case hd => rfl); (case hg => rfl); (case hr => first | (go_simp; done) | (go_simp; rfl))
           intro gb1360 hg w205 hbox hb
           replace HO_6 := Aside0.mk (Kd.R_below (Rl_ HO_6.out) hb)
           replace HO_268 := Aside0.mk (Kd.R_below (Rl_ HO_268.out) hb)
           replace HO_1291001 := Aside0.mk (Kd.R_below (Rl_ HO_1291001.out) hb)
           replace HO1358 := Aside0.mk (Kd.R_below (Rl_ HO1358.out) hb)
           replace HR1354 := Aside0.mk (Kd.C_below (by repeat (first | (with_reducible exact HR1354.out) | (with_reducible refine Kd.C_alloc ?_ _) | (with_reducible refine Kd.C_drewN ?_ _) | (with_reducible refine Kd.C_drew ?_) | exact HR1354.out)) hb)
           have BK1360 := Aside0.mk (hbox)
           have GW1360 := Aside0.mk ((by rw [hg]; exact (below_size (Bl_ HB)) : w.heap.size ≤ gb1360))
           have GE1360 := Aside0.mk ((by rw [hg]; exact (below_size (Bl_ HB)) : w.heap.size ≤ gb1360))
           replace HB := Aside0.mk (below_step (Bl_ HB) hb)
           have NB1290_1360 := nbl_ BK1290 hg
           have NB1360_1290 := nbg_ BK1290 hg
           replace BK1290 := blkB_ BK1290 hb
           clear hb hbox hg
           refine hK.out _ _ ⟨(blk_cell BK1290.out 0).trans rfl, (blk_cell BK1290.out 1).trans rfl⟩ (fun hHeld => ?_)
           clear hK K
           refine norm_ (a' := ?_) ?_ ?_
           rotate_left
           ·show Act.put _ (some 38) _ = _
            simp only [Act.put, List.setIfInBounds_toArray, List.set_cons_zero, List.set_cons_succ, i64_w, i32_w]
            rfl
           exact norm_ (by simp only [putAll, Act.put, List.setIfInBounds_toArray, List.set_cons_zero, List.set_cons_succ]) (hCont (v1357, gb1360) _ ⟨hHeld, (Rl_ (Kd.R_mono HO1358.out (fun _ hk => ⟨hk.2, ⟨hk.1.2, hk.1.1.2⟩⟩))), (Rl_ (Kd.R_mono HO_1291001.out (fun _ hk => ⟨hk.2, ⟨hk.1.2, hk.1.1⟩⟩))), (Rl_ (Kd.R_mono HO_268.out (fun _ hk => ⟨hk.2, ⟨hk.1.2, hk.1.1⟩⟩))), (Rl_ (Kd.R_mono HO_6.out (fun _ hk => ⟨hk.2, ⟨hk.1.2, hk.1.1⟩⟩))), (bl_ BK1290), (bl_ BK1360), GW1360.out, GE1360.out, NB1290_1360.out, NB1360_1290.out, (Bl_ HB)⟩)
          ·skip
           refine box_step ?hg (N := 38) ?hd (cs := #[.int .i64 0, .slice none 0 0]) (t := 26) ?hr ?_; (case hd => rfl); (case hg => rfl); (case hr => first | (go_simp; done) | (go_simp; rfl))
           intro gb1360 hg w204 hbox hb
           replace HO_6 := Aside0.mk (Kd.R_below (Rl_ HO_6.out) hb)
           replace HO_268 := Aside0.mk (Kd.R_below (Rl_ HO_268.out) hb)
           replace HO_1291001 := Aside0.mk (Kd.R_below (Rl_ HO_1291001.out) hb)
           replace HR1354 := Aside0.mk (Kd.C_below (by repeat (first | (with_reducible exact HR1354.out) | (with_reducible refine Kd.C_alloc ?_ _) | (with_reducible refine Kd.C_drewN ?_ _) | (with_reducible refine Kd.C_drew ?_) | exact HR1354.out)) hb)
           have BK1360 := Aside0.mk (hbox)
           have GW1360 := Aside0.mk ((by rw [hg]; exact (below_size (Bl_ HB)) : w.heap.size ≤ gb1360))
           have GE1360 := Aside0.mk ((by rw [hg]; exact (below_size (Bl_ HB)) : w.heap.size ≤ gb1360))
           replace HB := Aside0.mk (below_step (Bl_ HB) hb)
           have NB1290_1360 := nbl_ BK1290 hg
           have NB1360_1290 := nbg_ BK1290 hg
           replace BK1290 := blkB_ BK1290 hb
           clear hb hbox hg
           refine hK.out _ _ ⟨(blk_cell BK1290.out 0).trans rfl, (blk_cell BK1290.out 1).trans rfl⟩ (fun hHeld => ?_)
           clear hK K
           refine norm_ (a' := ?_) ?_ ?_
           rotate_left
           ·show Act.put _ (some 38) _ = _
            simp only [Act.put, List.setIfInBounds_toArray, List.set_cons_zero, List.set_cons_succ, i64_w, i32_w]
            rfl
           refine one_ (i := 3) (N := some 303) #[true, true, true, true, false, false, false, true, false, false] rfl rfl (one_of HT_.out (by kernel_rfl)) (by decide) (fun K hK => ?_)
           refine gs_ Try.func63 (by kernel_rfl) rfl #[.agg #[.int .i64 t1286, .slice Ao46 t1287.length co46], .slice Ao71 y1351.length co71] (by rfl) rfl rfl ?_
           with_reducible refine (impl_PlayTakes.calls k1 t1286 _ _ t1287 _ _ y1351 t1355 t1356 true _ ?side1 ?side2 ?side3 ?side4 A197.out).mono ?_
           (case side1 => exact Cl_ (Kd.R_reads' HO_1291001.out).2.2)
           (case side2 => exact (Kd.R_reads' HO_1291001.out).2.1)
           (case side3 => repeat (first | exact (by repeat (first | (with_reducible exact HR1354.out) | (with_reducible refine Kd.C_alloc ?_ _) | (with_reducible refine Kd.C_drewN ?_ _) | (with_reducible refine Kd.C_drew ?_) | exact HR1354.out)) | (with_reducible refine Kd.C_alloc ?_ _) | (with_reducible refine Kd.C_drewN ?_ _) | (with_reducible refine Kd.C_drew ?_)))
           (case side4 => exact HC1354.out)
           rintro e w205 ⟨v1357, rfl, ho0, hb⟩
           refine ⟨_, rfl, ?_⟩
           have HO1358 := Aside0.mk (Kd.R_lower (Kd.R_new' (Kd.R_new' (Kd.R_new' ho0 (Kd.R_lt (Rl_ HO_6.out))) (Kd.R_lt (Rl_ HO_268.out))) (Kd.R_lt (Rl_ HO_1291001.out))) (below_size (Bl_ HB)))
           replace HO_6 := Aside0.mk (Kd.R_elder' (Rl_ HO_6.out) (Kd.R_base ho0) hb)
           replace HO_268 := Aside0.mk (Kd.R_elder' (Rl_ HO_268.out) (Kd.R_base ho0) hb)
           replace HO_1291001 := Aside0.mk (Kd.R_elder' (Rl_ HO_1291001.out) (Kd.R_base ho0) hb)
           replace BK1290 := blkB_ BK1290 hb
           replace HR1354 := Aside0.mk (Kd.C_below (by repeat (first | (with_reducible exact HR1354.out) | (with_reducible refine Kd.C_alloc ?_ _) | (with_reducible refine Kd.C_drewN ?_ _) | (with_reducible refine Kd.C_drew ?_) | exact HR1354.out)) hb)
           replace BK1360 := blkB_ BK1360 hb
           replace HB := Aside0.mk (below_step (Bl_ HB) hb)
           (try clear hb); (try clear hb2); (try clear hk); (try clear hi); (try clear ho0)
           refine hK.out _ _ ⟨(blk_cell BK1290.out 0).trans rfl, (blk_cell BK1290.out 1).trans rfl⟩ (fun hHeld => ?_)
           clear hK K
           refine norm_ (a' := ?_) ?_ ?_
           rotate_left
           ·show Act.put _ (some 303) _ = _
            simp only [Act.put, List.setIfInBounds_toArray, List.set_cons_zero, List.set_cons_succ, i64_w, i32_w]
            rfl
           refine pure_ (i := 4) (N := some 299) (v := ?_) (a' := ?_) #[true, true, true, true, true, false, false, true, false, false] rfl rfl (any_of HT_.out (by kernel_rfl)) (fun _ _ _ h => h) (Or.inl ⟨by rfl, ?_⟩) ?_ ?_
           rotate_left
           ·intro w'
            go_simp
            with_reducible rfl
           rotate_left
           ·simp only [Act.put, List.setIfInBounds_toArray, List.set_cons_zero, List.set_cons_succ, i64_w, i32_w]
            rfl
           refine pure_ (i := 5) (N := some 304) (v := ?_) (a' := ?_) #[true, true, true, true, true, true, false, true, false, false] rfl rfl (any_of HT_.out (by kernel_rfl)) (fun _ _ _ h => h) (Or.inl ⟨by rfl, ?_⟩) ?_ ?_
           rotate_left
           ·intro w'
            go_simp
            with_reducible rfl
           rotate_left
           ·simp only [Act.put, List.setIfInBounds_toArray, List.set_cons_zero, List.set_cons_succ, i64_w, i32_w]
            rfl
           refine pure_ (i := 6) (N := some 305) (v := ?_) (a' := ?_) (fl_ 10 8) rfl rfl (any_of HT_.out (by kernel_rfl)) (fun _ _ _ h => h) (Or.inl ⟨by rfl, ?_⟩) ?_ ?_
           rotate_left
           ·intro w'
            go_simp
            with_reducible rfl
           rotate_left
           ·simp only [Act.put, List.setIfInBounds_toArray, List.set_cons_zero, List.set_cons_succ, i64_w, i32_w]
            rfl
           exact norm_ (by simp only [putAll, Act.put, List.setIfInBounds_toArray, List.set_cons_zero, List.set_cons_succ]) (hCont (v1357, gb1360) _ ⟨hHeld, (Rl_ (Kd.R_mono HO1358.out (fun _ hk => ⟨hk.2, ⟨hk.1.2, hk.1.1.2⟩⟩))), (Rl_ (Kd.R_mono HO_1291001.out (fun _ hk => ⟨hk.2, ⟨hk.1.2, hk.1.1⟩⟩))), (Rl_ (Kd.R_mono HO_268.out (fun _ hk => ⟨hk.2, ⟨hk.1.2, hk.1.1⟩⟩))), (Rl_ (Kd.R_mono HO_6.out (fun _ hk => ⟨hk.2, ⟨hk.1.2, hk.1.1⟩⟩))), (bl_ BK1290), (bl_ BK1360), GW1360.out, GE1360.out, NB1290_1360.out, NB1360_1290.out, (Bl_ HB)⟩)
         rintro ⟨v1357, gb1360⟩ w206 ⟨hS_, h0_, h1_, h2_, h3_, h4_, h5_, h6_, h7_, h8_, h9_, h10_⟩
         have HO1358 : Aside0 (Kd.R (Kd.int .i64) 3 w206 w.heap.size (fun k_ => some k_ ≠ (.slice Ao46 t1287.length co46 : Value).ownBlock ∧ some k_ ≠ (.slice Ao73 t1303.length co73 : Value).ownBlock ∧ some k_ ≠ (.slice Ao71 t1291.length co71 : Value).ownBlock) v1357 t1356) := ⟨h0_⟩
         replace HO_1291001 : Aside0 (Kd.R (Kd.int .i64) 3 w206 w.heap.size (fun k_ => some k_ ≠ (v1357 : Value).ownBlock ∧ some k_ ≠ (.slice Ao73 t1303.length co73 : Value).ownBlock ∧ some k_ ≠ (.slice Ao71 t1291.length co71 : Value).ownBlock) (.slice Ao46 t1287.length co46) t1287) := ⟨h1_⟩
         replace HO_268 : Aside0 (Kd.R (Kd.int .i64) 3 w206 w.heap.size (fun k_ => some k_ ≠ (v1357 : Value).ownBlock ∧ some k_ ≠ (.slice Ao46 t1287.length co46 : Value).ownBlock ∧ some k_ ≠ (.slice Ao71 t1291.length co71 : Value).ownBlock) (.slice Ao73 t1303.length co73) t1303) := ⟨h2_⟩
         replace HO_6 : Aside0 (Kd.R (Kd.int .i64) 3 w206 w.heap.size (fun k_ => some k_ ≠ (v1357 : Value).ownBlock ∧ some k_ ≠ (.slice Ao46 t1287.length co46 : Value).ownBlock ∧ some k_ ≠ (.slice Ao73 t1303.length co73 : Value).ownBlock) (.slice Ao71 t1291.length co71) t1291) := ⟨h3_⟩
         replace BK1290 : Aside0 (w206.heap[gb1290]? = some (.cells #[.int .i64 t1286, .slice Ao46 t1287.length co46] 26 (0, 0))) := ⟨h4_⟩
         have BK1360 : Aside0 (w206.heap[gb1360]? = some (.cells #[.int .i64 0, .slice none 0 0] 26 (0, 0))) := ⟨h5_⟩
         have GW1360 : Aside0 (w.heap.size ≤ gb1360) := ⟨h6_⟩
         have GE1360 : Aside0 (w.heap.size ≤ gb1360) := ⟨h7_⟩
         have NB1290_1360 : Aside0 (gb1290 ≠ gb1360) := ⟨h8_⟩
         have NB1360_1290 : Aside0 (gb1360 ≠ gb1290) := ⟨h9_⟩
         replace HB : Aside0 (Below w.heap.size w w206) := ⟨h10_⟩
         clear h0_ h1_ h2_ h3_ h4_ h5_ h6_ h7_ h8_ h9_ h10_
         have hHeld : w206.cell? ⟨gb1290, 0, none⟩ = some (.int .i64 t1286) ∧ w206.cell? ⟨gb1290, 1, none⟩ = some (.slice Ao46 t1287.length co46) := hS_
         obtain ⟨Ao208, co208, eo208⟩ := Kd.R_slice HO1358.out
         (first | subst eo208 | (injection eo208 with f1_ f2_ f3_; have f4_ := f1_.symm; have f5_ := f3_.symm; clear f1_ f2_ f3_; subst f4_; subst f5_))
         refine norm_ (a' := ?_) ?_ ?_
         rotate_left
         ·simp only [putAll, Act.put, List.setIfInBounds_toArray, List.set_cons_zero, List.set_cons_succ]
          rfl
         refine one_ (i := 8) (N := none) (fl_ 10 9) rfl rfl (one_of HT_.out (by kernel_rfl)) (by decide) (fun K hK => ?_)
         have hs207 : w206.cell? ⟨gb1360, 0, none⟩ = some (.int .i64 0) := (blk_cell BK1360.out 0).trans rfl
         have hfs207 := blk_frozen BK1360.out 0
         have hns207_0 := NB1290_1360.out
         have hms207_0 := NB1360_1290.out
         have hs209 : w206.cell? ⟨gb1360, 1, none⟩ = some (.slice none 0 0) := (blk_cell BK1360.out 1).trans rfl
         have hfs209 := blk_frozen BK1360.out 1
         have hns209_0 := NB1290_1360.out
         have hms209_0 := NB1360_1290.out
         refine skip_ (w1 := ?_) (by rfl) rfl ?_ ?_
         rotate_left
         ·go_simp
          rfl
         refine hK.out _ _ ⟨((cell_far (p := ⟨gb1360, _, none⟩) NB1290_1360.out _).trans (((cell_far (p := ⟨gb1360, _, none⟩) NB1290_1360.out _).trans (hHeld.1)))), ((cell_far (p := ⟨gb1360, _, none⟩) NB1290_1360.out _).trans (((cell_far (p := ⟨gb1360, _, none⟩) NB1290_1360.out _).trans (hHeld.2))))⟩ (fun hHeld => ?_)
         clear hK K
         refine pure_ (i := 9) (N := some 39) (v := ?_) (a' := ?_) (fl_ 10 10) rfl rfl (any_of HT_.out (by kernel_rfl)) (fun _ _ _ h => h) (Or.inl ⟨by rfl, ?_⟩) ?_ ?_
         rotate_left
         ·intro w'
          go_simp
          with_reducible rfl
         rotate_left
         ·simp only [Act.put, List.setIfInBounds_toArray, List.set_cons_zero, List.set_cons_succ, i64_w, i32_w]
          rfl
         refine done_ (done_of HT_.out (by kernel_rfl)) ?_
         have hnb210 := NB1360_1290.out
         have hnc210 := NB1290_1360.out
         have hcz211_0 : w206.cell? ⟨gb1360, 0, none⟩ = some (.int .i64 0) := (blk_cell BK1360.out 0).trans rfl
         have hcz211_1 : w206.cell? ⟨gb1360, 1, none⟩ = some (.slice none 0 0) := (blk_cell BK1360.out 1).trans rfl
         have hfz211_0 := blk_frozen BK1360.out 0
         have hfz211_1 := blk_frozen BK1360.out 1
         try go_wp2_with (first | ((with_reducible refine gate_callee (f := 55) rfl ?_); refine gl_ (some 308) rfl rfl Try.func55 (by kernel_rfl) rfl #[.agg #[.int .i64 t1355, .slice Ao208 t1356.length co208]] rfl ?_; (with_reducible refine (impl_TakeLength.calls k1 t1355 _ _ t1356 t1361 true _ ?side1 ?side2 A198.out).mono ?_); (case side1 => refine (Kd.R_reads' (e := 3) (base := w.heap.size) (ok := fun k_ => (some k_ ≠ (.slice Ao46 t1287.length co46 : Value).ownBlock ∧ (some k_ ≠ (.slice Ao73 t1303.length co73 : Value).ownBlock ∧ some k_ ≠ (.slice Ao71 t1291.length co71 : Value).ownBlock))) (n := t1356.length) (c := co208) ?_).2.2; exact (Rl_ (Rf2_ HO1358.out BK1360.out (by decide) (.int .i64 t1355) (.slice Ao208 t1356.length co208)))); (case side2 => exact (Kd.R_reads' HO1358.out).2.1); rintro e w212 ⟨rfl, hb⟩; refine ⟨_, rfl, ?_⟩; replace HO_6 := Aside0.mk (Kd.R_below (Rl_ (Rf2_ HO_6.out BK1360.out (by decide) (.int .i64 t1355) (.slice Ao208 t1356.length co208))) hb); replace HO_268 := Aside0.mk (Kd.R_below (Rl_ (Rf2_ HO_268.out BK1360.out (by decide) (.int .i64 t1355) (.slice Ao208 t1356.length co208))) hb); replace HO_1291001 := Aside0.mk (Kd.R_below (Rl_ (Rf2_ HO_1291001.out BK1360.out (by decide) (.int .i64 t1355) (.slice Ao208 t1356.length co208))) hb); replace HO1358 := Aside0.mk (Kd.R_below (Rl_ (Rf2_ HO1358.out BK1360.out (by decide) (.int .i64 t1355) (.slice Ao208 t1356.length co208))) hb); replace BK1290 := blkF_ BK1290 NB1290_1360 hb; replace BK1360 := Aside0.mk (blk_below (g := gb1360) (o := .cells #[.int .i64 t1355, .slice Ao208 t1356.length co208] 26 (0, 0)) (by (with_reducible repeat (first | refine blk_drewN ?_ _ | refine blk_drew ?_ | refine blk_alloc ?_ _)); refine blk_put (cs := #[.int .i64 t1355, .slice none 0 0]) ?_ 1 _ rfl; (with_reducible repeat (first | refine blk_drewN ?_ _ | refine blk_drew ?_ | refine blk_alloc ?_ _)); refine blk_put (cs := #[.int .i64 0, .slice none 0 0]) ?_ 0 _ rfl; (with_reducible repeat (first | refine blk_drewN ?_ _ | refine blk_drew ?_ | refine blk_alloc ?_ _)); exact BK1360.out) hb); replace HB := Aside0.mk (below_step (Bl_ HB) hb); (try clear hb); (try clear hb2); (try clear hk); (try clear hi)))
         go_meet
         case rel => exact ⟨_, H', ⟨by have := HK1.out; first | omega | exact Nat.le_refl _⟩, ⟨Bl_ HB⟩⟩
        rw [if_neg c195] at H
        have c195b0 : decide (1 < (t1291.length : Int)) = false := decide_eq_false c195
        have c195b1 : decide (1 < t1291.length) = false := decide_eq_false (by omega)
        clear c195
        have H' := Aside0.mk H
        clear H
        go_wp2
        go_meet
        case rel => exact ⟨_, H', ⟨by have := HK1.out; first | omega | exact Nat.le_refl _⟩, ⟨Bl_ HB⟩⟩
   replace c78 := Bool.eq_false_iff.mpr c78
   subst c78
   rw [if_neg (show ¬ (false = true) by decide)] at H
   have H' := Aside0.mk H
   clear H
   go_wp2
   go_meet
   case rel => exact ⟨_, H', ⟨by first | omega | exact Nat.le_refl _⟩, ⟨Bl_ HB⟩⟩
 case rest =>
  as_aux_lemma =>
   clear HC42
   try clear c1
   try clear p1
   try clear q1
   try clear hx1
   try clear c2
   try clear p2
   try clear q2
   try clear c5
   try clear c6
   try clear p6
   try clear c7
   try clear c8
   try clear p13
   try clear q13
   try clear hx13
   try clear q14
   try clear c15
   try clear c16
   try clear c17
   try clear c19
   try clear c20
   try clear q20
   try clear c21
   try clear c51
   try clear c55
   try clear c61
   try clear c63
   try clear p64
   try clear c78
   try clear c80
   try clear p133
   try clear q133
   try clear hx133
   try clear q140
   try clear c150
   try clear c163
   try clear c163b0
   try clear c164
   try clear c164b0
   try clear c165
   try clear c165b0
   try clear c167
   try clear c169
   try clear c171
   try clear c172
   try clear c179
   try clear c191
   try clear c195
   try clear c195b0
   try clear c195b1
   try clear c196
   try clear c196b0
   try clear c196b1
   try clear c199
   try clear c200
   try clear c201
   try clear c201b0
   try clear c201b1
   try clear q203
   try clear c210
   try clear hcz129_1
   try clear hcz148_0
   try clear hcz148_1
   try clear hcz156_0
   try clear hcz156_1
   try clear hcz160_0
   try clear hcz160_1
   try clear hcz173_0
   try clear hcz173_1
   try clear hcz180_0
   try clear hcz180_1
   try clear hcz183_0
   try clear hcz183_1
   try clear hcz185_0
   try clear hcz185_1
   try clear hcz192_0
   try clear hcz192_1
   try clear hcz211_0
   try clear hcz211_1
   try clear hfz110_0
   try clear hfz110_1
   try clear hfz117_0
   try clear hfz117_1
   try clear hfz120_0
   try clear hfz120_1
   try clear hfz122_0
   try clear hfz122_1
   try clear hfz129_0
   try clear hfz129_1
   try clear hfz148_0
   try clear hfz148_1
   try clear hfz156_0
   try clear hfz156_1
   try clear hfz160_0
   try clear hfz160_1
   try clear hfz173_0
   try clear hfz173_1
   try clear hfz180_0
   try clear hfz180_1
   try clear hfz183_0
   try clear hfz183_1
   try clear hfz185_0
   try clear hfz185_1
   try clear hfz192_0
   try clear hfz192_1
   try clear hfz211_0
   try clear hfz211_1
   try clear hx1338_0
   try clear p1338
   try clear q1338
   try clear q140
   try clear q203
   obtain ⟨kq, HA, HJ41, HB⟩ := hcut
   cases kq with
   | zero => exact absurd HA.out (by simp [laws_FnTakesPlayed.j1])
   | succ kj41 =>
    have H := HA.out
    clear HA
    simp only [laws_FnTakesPlayed.j1] at H
    replace H := Option.bind_eq_some_iff.mp H
    obtain ⟨⟨t1363, t1364, t1367⟩, A2130, H⟩ := H
    (try dsimp only at H)
    have A213 := Aside0.mk A2130
    clear A2130
    replace H := Option.bind_eq_some_iff.mp H
    obtain ⟨⟨t1371, t1372, t1375⟩, A2140, H⟩ := H
    (try dsimp only at H)
    have A214 := Aside0.mk A2140
    clear A2140
    replace H := Option.bind_eq_some_iff.mp H
    obtain ⟨⟨t1377, t1378, t1381⟩, A2150, H⟩ := H
    (try dsimp only at H)
    have A215 := Aside0.mk A2150
    clear A2150
    by_cases c216 : (t1375 != t1381) = true
    ·rw [if_pos c216] at H
     exact absurd H (by simp)
    rw [if_neg c216] at H
    have c216b0 : (t1375 != t1381) = false := by simpa using c216
    (try (have c216b1 : decide (t1375 = t1381) = true := by simpa using c216))
    (try (have c216b2 : (t1375 == t1381) = true := by simpa using c216))
    clear c216
    replace H := Option.bind_eq_some_iff.mp H
    obtain ⟨t1383, A2170, H⟩ := H
    (try dsimp only at H)
    have A217 := Aside0.mk A2170
    clear A2170
    by_cases c218 : t1383 = true
    rotate_left
    ·replace c218 := Bool.eq_false_iff.mpr c218
     subst c218
     rw [if_neg (show ¬ (false = true) by decide)] at H
     exact absurd H (by simp)
    subst c218
    rw [if_pos rfl] at H
    by_cases c219 : t1375 = true
    ·subst c219
     rw [if_pos rfl] at H
     obtain rfl := Option.some.inj H
     go_wp2_with (first | ((with_reducible refine gate_callee (f := 64) rfl ?_); refine gl_ (some 325) rfl rfl Try.func64 (by kernel_rfl) rfl #[.slice A1 l1.length c1] rfl ?_; (with_reducible refine (spec_DrawPlayTakes.calls kj41 _ _ l1 t1363 t1364 t1367 _ ?side1 ?side2 A213.out).mono ?_); (case side1 => exact Cl_ (Kd.C_below HR1.out HB.out)); (case side2 => exact HC1.out); rintro e w220 ⟨v1365, v1368, rfl, ho0, ho1, hb⟩; refine ⟨_, rfl, ?_⟩; have HO1366 := Aside0.mk (Kd.R_lower ho0 (below_size (Bl_ HB))); have HO1369 := Aside0.mk (Kd.R_lower ho1 (below_size (Bl_ HB))); replace HB := Aside0.mk (below_step (Bl_ HB) hb); (try clear hb); (try clear hb2); (try clear hk); (try clear hi); (try clear ho0); (try clear ho1)) | ((with_reducible refine gate_dst (N := 42) rfl ?_); (try (refine gate_guard (by rfl) ?_; dsimp only)); refine box_event ?hg (N := 42) ?hd (cs := #[.int .i64 0, .slice none 0 0]) (t := 26) ?hr ?_; (case hd => rfl); (case hg => rfl); (case hr => first | (go_simp; done) | (go_simp; rfl)); intro gb1370 hg w221 hbox hb; replace HO1366 := Aside0.mk (Kd.R_below (Rl_ HO1366.out) hb); replace HO1369 := Aside0.mk (Kd.R_below (Rl_ HO1369.out) hb); have BK1370 := Aside0.mk (hbox); have GW1370 := Aside0.mk ((by rw [hg]; exact (below_size (Bl_ HB)) : w.heap.size ≤ gb1370)); have GE1370 := Aside0.mk ((by rw [hg]; exact (below_size (Bl_ HB)) : w.heap.size ≤ gb1370)); replace HB := Aside0.mk (below_step (Bl_ HB) hb); clear hb hbox hg; have hcz222_0 : w221.cell? ⟨gb1370, 0, none⟩ = some (.int .i64 0) := (blk_cell BK1370.out 0).trans rfl; have hcz222_1 : w221.cell? ⟨gb1370, 1, none⟩ = some (.slice none 0 0) := (blk_cell BK1370.out 1).trans rfl; have hfz222_0 := blk_frozen BK1370.out 0; have hfz222_1 := blk_frozen BK1370.out 1; obtain ⟨Ao223, co223, eo223⟩ := Kd.R_slice HO1366.out; subst eo223; obtain ⟨Ao224, co224, eo224⟩ := Kd.R_slice HO1369.out; subst eo224) | ((with_reducible refine gate_callee (f := 63) rfl ?_); refine gl_ (some 331) rfl rfl Try.func63 (by kernel_rfl) rfl #[.agg #[.int .i64 t1363, .slice Ao223 t1364.length co223], .slice Ao224 t1367.length co224] rfl ?_; (with_reducible refine (impl_PlayTakes.calls kj41 t1363 _ _ t1364 _ _ t1367 t1371 t1372 true _ ?side1 ?side2 ?side3 ?side4 A214.out).mono ?_); (case side1 => refine (Kd.R_reads' (e := 3) (base := w.heap.size) (ok := fun k_ => some k_ ≠ (.slice Ao224 t1367.length co224 : Value).ownBlock) (n := t1364.length) (c := co223) ?_).2.2; exact (Rl_ (Rf2_ HO1366.out BK1370.out (by decide) (.int .i64 t1363) (.slice Ao223 t1364.length co223)))); (case side2 => exact (Kd.R_reads' HO1366.out).2.1); (case side3 => refine (Kd.R_reads' (e := 3) (base := w.heap.size) (ok := fun k_ => some k_ ≠ (.slice Ao223 t1364.length co223 : Value).ownBlock) (n := t1367.length) (c := co224) ?_).2.2; exact (Rl_ (Rf2_ HO1369.out BK1370.out (by decide) (.int .i64 t1363) (.slice Ao223 t1364.length co223)))); (case side4 => exact (Kd.R_reads' HO1369.out).2.1); rintro e w225 ⟨v1373, rfl, ho0, hb⟩; refine ⟨_, rfl, ?_⟩; have HO1374 := Aside0.mk (Kd.R_lower (Kd.R_new' (Kd.R_new' ho0 (Kd.R_lt (Rl_ (Rf2_ HO1366.out BK1370.out (by decide) (.int .i64 t1363) (.slice Ao223 t1364.length co223))))) (Kd.R_lt (Rl_ (Rf2_ HO1369.out BK1370.out (by decide) (.int .i64 t1363) (.slice Ao223 t1364.length co223))))) (below_size (Bl_ HB))); replace HO1366 := Aside0.mk (Kd.R_elder' (Rl_ (Rf2_ HO1366.out BK1370.out (by decide) (.int .i64 t1363) (.slice Ao223 t1364.length co223))) (Kd.R_base ho0) hb); replace HO1369 := Aside0.mk (Kd.R_elder' (Rl_ (Rf2_ HO1369.out BK1370.out (by decide) (.int .i64 t1363) (.slice Ao223 t1364.length co223))) (Kd.R_base ho0) hb); replace BK1370 := Aside0.mk (blk_below (g := gb1370) (o := .cells #[.int .i64 t1363, .slice Ao223 t1364.length co223] 26 (0, 0)) (by (with_reducible repeat (first | refine blk_drewN ?_ _ | refine blk_drew ?_ | refine blk_alloc ?_ _)); refine blk_put (cs := #[.int .i64 t1363, .slice none 0 0]) ?_ 1 _ rfl; (with_reducible repeat (first | refine blk_drewN ?_ _ | refine blk_drew ?_ | refine blk_alloc ?_ _)); refine blk_put (cs := #[.int .i64 0, .slice none 0 0]) ?_ 0 _ rfl; (with_reducible repeat (first | refine blk_drewN ?_ _ | refine blk_drew ?_ | refine blk_alloc ?_ _)); exact BK1370.out) hb); replace HB := Aside0.mk (below_step (Bl_ HB) hb); (try clear hb); (try clear hb2); (try clear hk); (try clear hi); (try clear ho0)) | ((with_reducible refine gate_dst (N := 44) rfl ?_); (try (refine gate_guard (by rfl) ?_; dsimp only)); refine box_event ?hg (N := 44) ?hd (cs := #[.int .i64 0, .slice none 0 0]) (t := 26) ?hr ?_; (case hd => rfl); (case hg => rfl); (case hr => first | (go_simp; done) | (go_simp; rfl)); intro gb1376 hg w226 hbox hb; replace HO1366 := Aside0.mk (Kd.R_below (Rl_ HO1366.out) hb); replace HO1369 := Aside0.mk (Kd.R_below (Rl_ HO1369.out) hb); replace HO1374 := Aside0.mk (Kd.R_below (Rl_ HO1374.out) hb); have BK1376 := Aside0.mk (hbox); have GW1376 := Aside0.mk ((by rw [hg]; exact (below_size (Bl_ HB)) : w.heap.size ≤ gb1376)); have GE1376 := Aside0.mk ((by rw [hg]; exact (below_size (Bl_ HB)) : w.heap.size ≤ gb1376)); replace HB := Aside0.mk (below_step (Bl_ HB) hb); have NB1370_1376 := nbl_ BK1370 hg; have NB1376_1370 := nbg_ BK1370 hg; replace BK1370 := blkB_ BK1370 hb; clear hb hbox hg; have hnb227 := NB1376_1370.out; have hnc227 := NB1370_1376.out; have hcz228_0 : w226.cell? ⟨gb1376, 0, none⟩ = some (.int .i64 0) := (blk_cell BK1376.out 0).trans rfl; have hcz228_1 : w226.cell? ⟨gb1376, 1, none⟩ = some (.slice none 0 0) := (blk_cell BK1376.out 1).trans rfl; have hfz228_0 := blk_frozen BK1376.out 0; have hfz228_1 := blk_frozen BK1376.out 1; obtain ⟨Ao229, co229, eo229⟩ := Kd.R_slice HO1374.out; subst eo229; have hcz230_0 : w226.cell? ⟨gb1370, 0, none⟩ = some (.int .i64 t1363) := (blk_cell BK1370.out 0).trans rfl; have hcz230_1 : w226.cell? ⟨gb1370, 1, none⟩ = some (.slice Ao223 t1364.length co223) := (blk_cell BK1370.out 1).trans rfl; have hfz230_0 := blk_frozen BK1370.out 0; have hfz230_1 := blk_frozen BK1370.out 1) | ((with_reducible refine gate_callee (f := 65) rfl ?_); refine gl_ (some 337) rfl rfl Try.func65 (by kernel_rfl) rfl #[.agg #[.int .i64 t1363, .slice Ao223 t1364.length co223], .slice Ao224 t1367.length co224] rfl ?_; (with_reducible refine (spec_PlayTakes.calls kj41 t1363 _ _ t1364 _ _ t1367 t1377 t1378 t1381 _ ?side1 ?side2 ?side3 ?side4 A215.out).mono ?_); (case side1 => refine (Kd.R_reads' (e := 3) (base := w.heap.size) (ok := fun k_ => (some k_ ≠ (.slice Ao224 t1367.length co224 : Value).ownBlock ∧ some k_ ≠ (.slice Ao229 t1372.length co229 : Value).ownBlock)) (n := t1364.length) (c := co223) ?_).2.2; exact (Rl_ (Rf2_ HO1366.out BK1376.out (by decide) (.int .i64 t1371) (.slice Ao229 t1372.length co229)))); (case side2 => exact (Kd.R_reads' HO1366.out).2.1); (case side3 => refine (Kd.R_reads' (e := 3) (base := w.heap.size) (ok := fun k_ => (some k_ ≠ (.slice Ao223 t1364.length co223 : Value).ownBlock ∧ some k_ ≠ (.slice Ao229 t1372.length co229 : Value).ownBlock)) (n := t1367.length) (c := co224) ?_).2.2; exact (Rl_ (Rf2_ HO1369.out BK1376.out (by decide) (.int .i64 t1371) (.slice Ao229 t1372.length co229)))); (case side4 => exact (Kd.R_reads' HO1369.out).2.1); rintro e w231 ⟨v1379, rfl, ho0, hb⟩; refine ⟨_, rfl, ?_⟩; have HO1380 := Aside0.mk (Kd.R_lower (Kd.R_new' (Kd.R_new' (Kd.R_new' ho0 (Kd.R_lt (Rl_ (Rf2_ HO1366.out BK1376.out (by decide) (.int .i64 t1371) (.slice Ao229 t1372.length co229))))) (Kd.R_lt (Rl_ (Rf2_ HO1369.out BK1376.out (by decide) (.int .i64 t1371) (.slice Ao229 t1372.length co229))))) (Kd.R_lt (Rl_ (Rf2_ HO1374.out BK1376.out (by decide) (.int .i64 t1371) (.slice Ao229 t1372.length co229))))) (below_size (Bl_ HB))); replace HO1366 := Aside0.mk (Kd.R_elder' (Rl_ (Rf2_ HO1366.out BK1376.out (by decide) (.int .i64 t1371) (.slice Ao229 t1372.length co229))) (Kd.R_base ho0) hb); replace HO1369 := Aside0.mk (Kd.R_elder' (Rl_ (Rf2_ HO1369.out BK1376.out (by decide) (.int .i64 t1371) (.slice Ao229 t1372.length co229))) (Kd.R_base ho0) hb); replace HO1374 := Aside0.mk (Kd.R_elder' (Rl_ (Rf2_ HO1374.out BK1376.out (by decide) (.int .i64 t1371) (.slice Ao229 t1372.length co229))) (Kd.R_base ho0) hb); replace BK1370 := blkF_ BK1370 NB1370_1376 hb; replace BK1376 := Aside0.mk (blk_below (g := gb1376) (o := .cells #[.int .i64 t1371, .slice Ao229 t1372.length co229] 26 (0, 0)) (by (with_reducible repeat (first | refine blk_drewN ?_ _ | refine blk_drew ?_ | refine blk_alloc ?_ _)); refine blk_put (cs := #[.int .i64 t1371, .slice none 0 0]) ?_ 1 _ rfl; (with_reducible repeat (first | refine blk_drewN ?_ _ | refine blk_drew ?_ | refine blk_alloc ?_ _)); refine blk_put (cs := #[.int .i64 0, .slice none 0 0]) ?_ 0 _ rfl; (with_reducible repeat (first | refine blk_drewN ?_ _ | refine blk_drew ?_ | refine blk_alloc ?_ _)); exact BK1376.out) hb); replace HB := Aside0.mk (below_step (Bl_ HB) hb); (try clear hb); (try clear hb2); (try clear hk); (try clear hi); (try clear ho0)) | ((with_reducible refine gate_dst (N := 46) rfl ?_); (try (refine gate_guard (by rfl) ?_; dsimp only)); refine box_event ?hg (N := 46) ?hd (cs := #[.int .i64 0, .slice none 0 0]) (t := 26) ?hr ?_; (case hd => rfl); (case hg => rfl); (case hr => first | (go_simp; done) | (go_simp; rfl)); intro gb1382 hg w232 hbox hb; replace HO1366 := Aside0.mk (Kd.R_below (Rl_ HO1366.out) hb); replace HO1369 := Aside0.mk (Kd.R_below (Rl_ HO1369.out) hb); replace HO1374 := Aside0.mk (Kd.R_below (Rl_ HO1374.out) hb); replace HO1380 := Aside0.mk (Kd.R_below (Rl_ HO1380.out) hb); have BK1382 := Aside0.mk (hbox); have GW1382 := Aside0.mk ((by rw [hg]; exact (below_size (Bl_ HB)) : w.heap.size ≤ gb1382)); have GE1382 := Aside0.mk ((by rw [hg]; exact (below_size (Bl_ HB)) : w.heap.size ≤ gb1382)); replace HB := Aside0.mk (below_step (Bl_ HB) hb); have NB1370_1382 := nbl_ BK1370 hg; have NB1382_1370 := nbg_ BK1370 hg; replace BK1370 := blkB_ BK1370 hb; have NB1376_1382 := nbl_ BK1376 hg; have NB1382_1376 := nbg_ BK1376 hg; replace BK1376 := blkB_ BK1376 hb; clear hb hbox hg; have hnb233 := NB1382_1370.out; have hnc233 := NB1370_1382.out; have hnb234 := NB1382_1376.out; have hnc234 := NB1376_1382.out; have hcz235_0 : w232.cell? ⟨gb1382, 0, none⟩ = some (.int .i64 0) := (blk_cell BK1382.out 0).trans rfl; have hcz235_1 : w232.cell? ⟨gb1382, 1, none⟩ = some (.slice none 0 0) := (blk_cell BK1382.out 1).trans rfl; have hfz235_0 := blk_frozen BK1382.out 0; have hfz235_1 := blk_frozen BK1382.out 1; obtain ⟨Ao236, co236, eo236⟩ := Kd.R_slice HO1380.out; subst eo236; have hcz237_0 : w232.cell? ⟨gb1376, 0, none⟩ = some (.int .i64 t1371) := (blk_cell BK1376.out 0).trans rfl; have hcz237_1 : w232.cell? ⟨gb1376, 1, none⟩ = some (.slice Ao229 t1372.length co229) := (blk_cell BK1376.out 1).trans rfl; have hfz237_0 := blk_frozen BK1376.out 0; have hfz237_1 := blk_frozen BK1376.out 1) | (go_at_call 66; (with_reducible refine (laws_nLadder.calls kj41 t1371 _ _ t1372 t1377 _ _ t1378 true _ ?side1 ?side2 ?side3 ?side4 A217.out).mono ?_); (case side1 => refine (Kd.R_reads' (e := 3) (base := w.heap.size) (ok := fun k_ => (((True ∧ some k_ ≠ (.slice Ao223 t1364.length co223 : Value).ownBlock) ∧ some k_ ≠ (.slice Ao224 t1367.length co224 : Value).ownBlock) ∧ some k_ ≠ (.slice Ao236 t1378.length co236 : Value).ownBlock)) (n := t1372.length) (c := co229) ?_).2.2; exact (Rl_ (Rf2_ HO1374.out BK1382.out (by decide) (.int .i64 t1377) (.slice Ao236 t1378.length co236)))); (case side2 => exact (Kd.R_reads' HO1374.out).2.1); (case side3 => refine (Kd.R_reads' (e := 3) (base := w.heap.size) (ok := fun k_ => (((True ∧ some k_ ≠ (.slice Ao223 t1364.length co223 : Value).ownBlock) ∧ some k_ ≠ (.slice Ao224 t1367.length co224 : Value).ownBlock) ∧ some k_ ≠ (.slice Ao229 t1372.length co229 : Value).ownBlock)) (n := t1378.length) (c := co236) ?_).2.2; exact (Rl_ (Rf2_ HO1380.out BK1382.out (by decide) (.int .i64 t1377) (.slice Ao236 t1378.length co236)))); (case side4 => exact (Kd.R_reads' HO1380.out).2.1); rintro e w238 ⟨rfl, hb⟩; replace HO1366 := Aside0.mk (Kd.R_below (Rl_ (Rf2_ HO1366.out BK1382.out (by decide) (.int .i64 t1377) (.slice Ao236 t1378.length co236))) hb); replace HO1369 := Aside0.mk (Kd.R_below (Rl_ (Rf2_ HO1369.out BK1382.out (by decide) (.int .i64 t1377) (.slice Ao236 t1378.length co236))) hb); replace HO1374 := Aside0.mk (Kd.R_below (Rl_ (Rf2_ HO1374.out BK1382.out (by decide) (.int .i64 t1377) (.slice Ao236 t1378.length co236))) hb); replace HO1380 := Aside0.mk (Kd.R_below (Rl_ (Rf2_ HO1380.out BK1382.out (by decide) (.int .i64 t1377) (.slice Ao236 t1378.length co236))) hb); replace BK1370 := blkF_ BK1370 NB1370_1382 hb; replace BK1376 := blkF_ BK1376 NB1376_1382 hb; replace BK1382 := Aside0.mk (blk_below (g := gb1382) (o := .cells #[.int .i64 t1377, .slice Ao236 t1378.length co236] 26 (0, 0)) (by (with_reducible repeat (first | refine blk_drewN ?_ _ | refine blk_drew ?_ | refine blk_alloc ?_ _)); refine blk_put (cs := #[.int .i64 t1377, .slice none 0 0]) ?_ 1 _ rfl; (with_reducible repeat (first | refine blk_drewN ?_ _ | refine blk_drew ?_ | refine blk_alloc ?_ _)); refine blk_put (cs := #[.int .i64 0, .slice none 0 0]) ?_ 0 _ rfl; (with_reducible repeat (first | refine blk_drewN ?_ _ | refine blk_drew ?_ | refine blk_alloc ?_ _)); exact BK1382.out) hb); replace HB := Aside0.mk (below_step (Bl_ HB) hb); (try clear hb); (try clear hb2); (try clear hk); (try clear hi); have hcz239_0 : w238.cell? ⟨gb1376, 0, none⟩ = some (.int .i64 t1371) := (blk_cell BK1376.out 0).trans rfl; have hcz239_1 : w238.cell? ⟨gb1376, 1, none⟩ = some (.slice Ao229 t1372.length co229) := (blk_cell BK1376.out 1).trans rfl; have hfz239_0 := blk_frozen BK1376.out 0; have hfz239_1 := blk_frozen BK1376.out 1; have hcz240_0 : w238.cell? ⟨gb1370, 0, none⟩ = some (.int .i64 t1363) := (blk_cell BK1370.out 0).trans rfl; have hcz240_1 : w238.cell? ⟨gb1370, 1, none⟩ = some (.slice Ao223 t1364.length co223) := (blk_cell BK1370.out 1).trans rfl; have hfz240_0 := blk_frozen BK1370.out 0; have hfz240_1 := blk_frozen BK1370.out 1))
     go_ret
     exact ⟨by first | rfl | (simp [errW_none, errW_some] <;> rfl) | (simp [*, errW_none, errW_some] <;> rfl), Bl_ HB⟩
    replace c219 := Bool.eq_false_iff.mpr c219
    subst c219
    rw [if_neg (show ¬ (false = true) by decide)] at H
    obtain rfl := Option.some.inj H
    go_wp2_with (first | ((with_reducible refine gate_callee (f := 64) rfl ?_); refine gl_ (some 325) rfl rfl Try.func64 (by kernel_rfl) rfl #[.slice A1 l1.length c1] rfl ?_; (with_reducible refine (spec_DrawPlayTakes.calls kj41 _ _ l1 t1363 t1364 t1367 _ ?side1 ?side2 A213.out).mono ?_); (case side1 => exact Cl_ (Kd.C_below HR1.out HB.out)); (case side2 => exact HC1.out); rintro e w241 ⟨v1365, v1368, rfl, ho0, ho1, hb⟩; refine ⟨_, rfl, ?_⟩; have HO1366 := Aside0.mk (Kd.R_lower ho0 (below_size (Bl_ HB))); have HO1369 := Aside0.mk (Kd.R_lower ho1 (below_size (Bl_ HB))); replace HB := Aside0.mk (below_step (Bl_ HB) hb); (try clear hb); (try clear hb2); (try clear hk); (try clear hi); (try clear ho0); (try clear ho1)) | ((with_reducible refine gate_dst (N := 42) rfl ?_); (try (refine gate_guard (by rfl) ?_; dsimp only)); refine box_event ?hg (N := 42) ?hd (cs := #[.int .i64 0, .slice none 0 0]) (t := 26) ?hr ?_; (case hd => rfl); (case hg => rfl); (case hr => first | (go_simp; done) | (go_simp; rfl)); intro gb1370 hg w242 hbox hb; replace HO1366 := Aside0.mk (Kd.R_below (Rl_ HO1366.out) hb); replace HO1369 := Aside0.mk (Kd.R_below (Rl_ HO1369.out) hb); have BK1370 := Aside0.mk (hbox); have GW1370 := Aside0.mk ((by rw [hg]; exact (below_size (Bl_ HB)) : w.heap.size ≤ gb1370)); have GE1370 := Aside0.mk ((by rw [hg]; exact (below_size (Bl_ HB)) : w.heap.size ≤ gb1370)); replace HB := Aside0.mk (below_step (Bl_ HB) hb); clear hb hbox hg; have hcz243_0 : w242.cell? ⟨gb1370, 0, none⟩ = some (.int .i64 0) := (blk_cell BK1370.out 0).trans rfl; have hcz243_1 : w242.cell? ⟨gb1370, 1, none⟩ = some (.slice none 0 0) := (blk_cell BK1370.out 1).trans rfl; have hfz243_0 := blk_frozen BK1370.out 0; have hfz243_1 := blk_frozen BK1370.out 1; obtain ⟨Ao244, co244, eo244⟩ := Kd.R_slice HO1366.out; subst eo244; obtain ⟨Ao245, co245, eo245⟩ := Kd.R_slice HO1369.out; subst eo245) | ((with_reducible refine gate_callee (f := 63) rfl ?_); refine gl_ (some 331) rfl rfl Try.func63 (by kernel_rfl) rfl #[.agg #[.int .i64 t1363, .slice Ao244 t1364.length co244], .slice Ao245 t1367.length co245] rfl ?_; (with_reducible refine (impl_PlayTakes.calls kj41 t1363 _ _ t1364 _ _ t1367 t1371 t1372 false _ ?side1 ?side2 ?side3 ?side4 A214.out).mono ?_); (case side1 => refine (Kd.R_reads' (e := 3) (base := w.heap.size) (ok := fun k_ => some k_ ≠ (.slice Ao245 t1367.length co245 : Value).ownBlock) (n := t1364.length) (c := co244) ?_).2.2; exact (Rl_ (Rf2_ HO1366.out BK1370.out (by decide) (.int .i64 t1363) (.slice Ao244 t1364.length co244)))); (case side2 => exact (Kd.R_reads' HO1366.out).2.1); (case side3 => refine (Kd.R_reads' (e := 3) (base := w.heap.size) (ok := fun k_ => some k_ ≠ (.slice Ao244 t1364.length co244 : Value).ownBlock) (n := t1367.length) (c := co245) ?_).2.2; exact (Rl_ (Rf2_ HO1369.out BK1370.out (by decide) (.int .i64 t1363) (.slice Ao244 t1364.length co244)))); (case side4 => exact (Kd.R_reads' HO1369.out).2.1); rintro e w246 ⟨v1373, rfl, ho0, hb⟩; refine ⟨_, rfl, ?_⟩; have HO1374 := Aside0.mk (Kd.R_lower (Kd.R_new' (Kd.R_new' ho0 (Kd.R_lt (Rl_ (Rf2_ HO1366.out BK1370.out (by decide) (.int .i64 t1363) (.slice Ao244 t1364.length co244))))) (Kd.R_lt (Rl_ (Rf2_ HO1369.out BK1370.out (by decide) (.int .i64 t1363) (.slice Ao244 t1364.length co244))))) (below_size (Bl_ HB))); replace HO1366 := Aside0.mk (Kd.R_elder' (Rl_ (Rf2_ HO1366.out BK1370.out (by decide) (.int .i64 t1363) (.slice Ao244 t1364.length co244))) (Kd.R_base ho0) hb); replace HO1369 := Aside0.mk (Kd.R_elder' (Rl_ (Rf2_ HO1369.out BK1370.out (by decide) (.int .i64 t1363) (.slice Ao244 t1364.length co244))) (Kd.R_base ho0) hb); replace BK1370 := Aside0.mk (blk_below (g := gb1370) (o := .cells #[.int .i64 t1363, .slice Ao244 t1364.length co244] 26 (0, 0)) (by (with_reducible repeat (first | refine blk_drewN ?_ _ | refine blk_drew ?_ | refine blk_alloc ?_ _)); refine blk_put (cs := #[.int .i64 t1363, .slice none 0 0]) ?_ 1 _ rfl; (with_reducible repeat (first | refine blk_drewN ?_ _ | refine blk_drew ?_ | refine blk_alloc ?_ _)); refine blk_put (cs := #[.int .i64 0, .slice none 0 0]) ?_ 0 _ rfl; (with_reducible repeat (first | refine blk_drewN ?_ _ | refine blk_drew ?_ | refine blk_alloc ?_ _)); exact BK1370.out) hb); replace HB := Aside0.mk (below_step (Bl_ HB) hb); (try clear hb); (try clear hb2); (try clear hk); (try clear hi); (try clear ho0)) | ((with_reducible refine gate_dst (N := 44) rfl ?_); (try (refine gate_guard (by rfl) ?_; dsimp only)); refine box_event ?hg (N := 44) ?hd (cs := #[.int .i64 0, .slice none 0 0]) (t := 26) ?hr ?_; (case hd => rfl); (case hg => rfl); (case hr => first | (go_simp; done) | (go_simp; rfl)); intro gb1376 hg w247 hbox hb; replace HO1366 := Aside0.mk (Kd.R_below (Rl_ HO1366.out) hb); replace HO1369 := Aside0.mk (Kd.R_below (Rl_ HO1369.out) hb); replace HO1374 := Aside0.mk (Kd.R_below (Rl_ HO1374.out) hb); have BK1376 := Aside0.mk (hbox); have GW1376 := Aside0.mk ((by rw [hg]; exact (below_size (Bl_ HB)) : w.heap.size ≤ gb1376)); have GE1376 := Aside0.mk ((by rw [hg]; exact (below_size (Bl_ HB)) : w.heap.size ≤ gb1376)); replace HB := Aside0.mk (below_step (Bl_ HB) hb); have NB1370_1376 := nbl_ BK1370 hg; have NB1376_1370 := nbg_ BK1370 hg; replace BK1370 := blkB_ BK1370 hb; clear hb hbox hg; have hnb248 := NB1376_1370.out; have hnc248 := NB1370_1376.out; have hcz249_0 : w247.cell? ⟨gb1376, 0, none⟩ = some (.int .i64 0) := (blk_cell BK1376.out 0).trans rfl; have hcz249_1 : w247.cell? ⟨gb1376, 1, none⟩ = some (.slice none 0 0) := (blk_cell BK1376.out 1).trans rfl; have hfz249_0 := blk_frozen BK1376.out 0; have hfz249_1 := blk_frozen BK1376.out 1; obtain ⟨Ao250, co250, eo250⟩ := Kd.R_slice HO1374.out; subst eo250; have hcz251_0 : w247.cell? ⟨gb1370, 0, none⟩ = some (.int .i64 t1363) := (blk_cell BK1370.out 0).trans rfl; have hcz251_1 : w247.cell? ⟨gb1370, 1, none⟩ = some (.slice Ao244 t1364.length co244) := (blk_cell BK1370.out 1).trans rfl; have hfz251_0 := blk_frozen BK1370.out 0; have hfz251_1 := blk_frozen BK1370.out 1) | ((with_reducible refine gate_callee (f := 65) rfl ?_); refine gl_ (some 337) rfl rfl Try.func65 (by kernel_rfl) rfl #[.agg #[.int .i64 t1363, .slice Ao244 t1364.length co244], .slice Ao245 t1367.length co245] rfl ?_; (with_reducible refine (spec_PlayTakes.calls kj41 t1363 _ _ t1364 _ _ t1367 t1377 t1378 t1381 _ ?side1 ?side2 ?side3 ?side4 A215.out).mono ?_); (case side1 => refine (Kd.R_reads' (e := 3) (base := w.heap.size) (ok := fun k_ => (some k_ ≠ (.slice Ao245 t1367.length co245 : Value).ownBlock ∧ some k_ ≠ (.slice Ao250 t1372.length co250 : Value).ownBlock)) (n := t1364.length) (c := co244) ?_).2.2; exact (Rl_ (Rf2_ HO1366.out BK1376.out (by decide) (.int .i64 t1371) (.slice Ao250 t1372.length co250)))); (case side2 => exact (Kd.R_reads' HO1366.out).2.1); (case side3 => refine (Kd.R_reads' (e := 3) (base := w.heap.size) (ok := fun k_ => (some k_ ≠ (.slice Ao244 t1364.length co244 : Value).ownBlock ∧ some k_ ≠ (.slice Ao250 t1372.length co250 : Value).ownBlock)) (n := t1367.length) (c := co245) ?_).2.2; exact (Rl_ (Rf2_ HO1369.out BK1376.out (by decide) (.int .i64 t1371) (.slice Ao250 t1372.length co250)))); (case side4 => exact (Kd.R_reads' HO1369.out).2.1); rintro e w252 ⟨v1379, rfl, ho0, hb⟩; refine ⟨_, rfl, ?_⟩; have HO1380 := Aside0.mk (Kd.R_lower (Kd.R_new' (Kd.R_new' (Kd.R_new' ho0 (Kd.R_lt (Rl_ (Rf2_ HO1366.out BK1376.out (by decide) (.int .i64 t1371) (.slice Ao250 t1372.length co250))))) (Kd.R_lt (Rl_ (Rf2_ HO1369.out BK1376.out (by decide) (.int .i64 t1371) (.slice Ao250 t1372.length co250))))) (Kd.R_lt (Rl_ (Rf2_ HO1374.out BK1376.out (by decide) (.int .i64 t1371) (.slice Ao250 t1372.length co250))))) (below_size (Bl_ HB))); replace HO1366 := Aside0.mk (Kd.R_elder' (Rl_ (Rf2_ HO1366.out BK1376.out (by decide) (.int .i64 t1371) (.slice Ao250 t1372.length co250))) (Kd.R_base ho0) hb); replace HO1369 := Aside0.mk (Kd.R_elder' (Rl_ (Rf2_ HO1369.out BK1376.out (by decide) (.int .i64 t1371) (.slice Ao250 t1372.length co250))) (Kd.R_base ho0) hb); replace HO1374 := Aside0.mk (Kd.R_elder' (Rl_ (Rf2_ HO1374.out BK1376.out (by decide) (.int .i64 t1371) (.slice Ao250 t1372.length co250))) (Kd.R_base ho0) hb); replace BK1370 := blkF_ BK1370 NB1370_1376 hb; replace BK1376 := Aside0.mk (blk_below (g := gb1376) (o := .cells #[.int .i64 t1371, .slice Ao250 t1372.length co250] 26 (0, 0)) (by (with_reducible repeat (first | refine blk_drewN ?_ _ | refine blk_drew ?_ | refine blk_alloc ?_ _)); refine blk_put (cs := #[.int .i64 t1371, .slice none 0 0]) ?_ 1 _ rfl; (with_reducible repeat (first | refine blk_drewN ?_ _ | refine blk_drew ?_ | refine blk_alloc ?_ _)); refine blk_put (cs := #[.int .i64 0, .slice none 0 0]) ?_ 0 _ rfl; (with_reducible repeat (first | refine blk_drewN ?_ _ | refine blk_drew ?_ | refine blk_alloc ?_ _)); exact BK1376.out) hb); replace HB := Aside0.mk (below_step (Bl_ HB) hb); (try clear hb); (try clear hb2); (try clear hk); (try clear hi); (try clear ho0)) | ((with_reducible refine gate_dst (N := 46) rfl ?_); (try (refine gate_guard (by rfl) ?_; dsimp only)); refine box_event ?hg (N := 46) ?hd (cs := #[.int .i64 0, .slice none 0 0]) (t := 26) ?hr ?_; (case hd => rfl); (case hg => rfl); (case hr => first | (go_simp; done) | (go_simp; rfl)); intro gb1382 hg w253 hbox hb; replace HO1366 := Aside0.mk (Kd.R_below (Rl_ HO1366.out) hb); replace HO1369 := Aside0.mk (Kd.R_below (Rl_ HO1369.out) hb); replace HO1374 := Aside0.mk (Kd.R_below (Rl_ HO1374.out) hb); replace HO1380 := Aside0.mk (Kd.R_below (Rl_ HO1380.out) hb); have BK1382 := Aside0.mk (hbox); have GW1382 := Aside0.mk ((by rw [hg]; exact (below_size (Bl_ HB)) : w.heap.size ≤ gb1382)); have GE1382 := Aside0.mk ((by rw [hg]; exact (below_size (Bl_ HB)) : w.heap.size ≤ gb1382)); replace HB := Aside0.mk (below_step (Bl_ HB) hb); have NB1370_1382 := nbl_ BK1370 hg; have NB1382_1370 := nbg_ BK1370 hg; replace BK1370 := blkB_ BK1370 hb; have NB1376_1382 := nbl_ BK1376 hg; have NB1382_1376 := nbg_ BK1376 hg; replace BK1376 := blkB_ BK1376 hb; clear hb hbox hg; have hnb254 := NB1382_1370.out; have hnc254 := NB1370_1382.out; have hnb255 := NB1382_1376.out; have hnc255 := NB1376_1382.out; have hcz256_0 : w253.cell? ⟨gb1382, 0, none⟩ = some (.int .i64 0) := (blk_cell BK1382.out 0).trans rfl; have hcz256_1 : w253.cell? ⟨gb1382, 1, none⟩ = some (.slice none 0 0) := (blk_cell BK1382.out 1).trans rfl; have hfz256_0 := blk_frozen BK1382.out 0; have hfz256_1 := blk_frozen BK1382.out 1; obtain ⟨Ao257, co257, eo257⟩ := Kd.R_slice HO1380.out; subst eo257; have hcz258_0 : w253.cell? ⟨gb1376, 0, none⟩ = some (.int .i64 t1371) := (blk_cell BK1376.out 0).trans rfl; have hcz258_1 : w253.cell? ⟨gb1376, 1, none⟩ = some (.slice Ao250 t1372.length co250) := (blk_cell BK1376.out 1).trans rfl; have hfz258_0 := blk_frozen BK1376.out 0; have hfz258_1 := blk_frozen BK1376.out 1) | (go_at_call 66; (with_reducible refine (laws_nLadder.calls kj41 t1371 _ _ t1372 t1377 _ _ t1378 true _ ?side1 ?side2 ?side3 ?side4 A217.out).mono ?_); (case side1 => refine (Kd.R_reads' (e := 3) (base := w.heap.size) (ok := fun k_ => (((True ∧ some k_ ≠ (.slice Ao244 t1364.length co244 : Value).ownBlock) ∧ some k_ ≠ (.slice Ao245 t1367.length co245 : Value).ownBlock) ∧ some k_ ≠ (.slice Ao257 t1378.length co257 : Value).ownBlock)) (n := t1372.length) (c := co250) ?_).2.2; exact (Rl_ (Rf2_ HO1374.out BK1382.out (by decide) (.int .i64 t1377) (.slice Ao257 t1378.length co257)))); (case side2 => exact (Kd.R_reads' HO1374.out).2.1); (case side3 => refine (Kd.R_reads' (e := 3) (base := w.heap.size) (ok := fun k_ => (((True ∧ some k_ ≠ (.slice Ao244 t1364.length co244 : Value).ownBlock) ∧ some k_ ≠ (.slice Ao245 t1367.length co245 : Value).ownBlock) ∧ some k_ ≠ (.slice Ao250 t1372.length co250 : Value).ownBlock)) (n := t1378.length) (c := co257) ?_).2.2; exact (Rl_ (Rf2_ HO1380.out BK1382.out (by decide) (.int .i64 t1377) (.slice Ao257 t1378.length co257)))); (case side4 => exact (Kd.R_reads' HO1380.out).2.1); rintro e w259 ⟨rfl, hb⟩; replace HO1366 := Aside0.mk (Kd.R_below (Rl_ (Rf2_ HO1366.out BK1382.out (by decide) (.int .i64 t1377) (.slice Ao257 t1378.length co257))) hb); replace HO1369 := Aside0.mk (Kd.R_below (Rl_ (Rf2_ HO1369.out BK1382.out (by decide) (.int .i64 t1377) (.slice Ao257 t1378.length co257))) hb); replace HO1374 := Aside0.mk (Kd.R_below (Rl_ (Rf2_ HO1374.out BK1382.out (by decide) (.int .i64 t1377) (.slice Ao257 t1378.length co257))) hb); replace HO1380 := Aside0.mk (Kd.R_below (Rl_ (Rf2_ HO1380.out BK1382.out (by decide) (.int .i64 t1377) (.slice Ao257 t1378.length co257))) hb); replace BK1370 := blkF_ BK1370 NB1370_1382 hb; replace BK1376 := blkF_ BK1376 NB1376_1382 hb; replace BK1382 := Aside0.mk (blk_below (g := gb1382) (o := .cells #[.int .i64 t1377, .slice Ao257 t1378.length co257] 26 (0, 0)) (by (with_reducible repeat (first | refine blk_drewN ?_ _ | refine blk_drew ?_ | refine blk_alloc ?_ _)); refine blk_put (cs := #[.int .i64 t1377, .slice none 0 0]) ?_ 1 _ rfl; (with_reducible repeat (first | refine blk_drewN ?_ _ | refine blk_drew ?_ | refine blk_alloc ?_ _)); refine blk_put (cs := #[.int .i64 0, .slice none 0 0]) ?_ 0 _ rfl; (with_reducible repeat (first | refine blk_drewN ?_ _ | refine blk_drew ?_ | refine blk_alloc ?_ _)); exact BK1382.out) hb); replace HB := Aside0.mk (below_step (Bl_ HB) hb); (try clear hb); (try clear hb2); (try clear hk); (try clear hi)))
    go_ret
    exact ⟨by first | rfl | (simp [errW_none, errW_some] <;> rfl) | (simp [*, errW_none, errW_some] <;> rfl), Bl_ HB⟩

/-- THE ONE PURE STATEMENT of laws_FnTakesPlayed: yours. -/
def laws_FnTakesPlayed.Pure : Prop := ∀ (l0 : List Int) (l1 : List Int), l0.length ≤ maxLen → l0.length * 1 ≤ 140737488351232 → (∀ x ∈ l0, (Lit.int .u8 x).wf = true) → l1.length ≤ maxLen → l1.length * 1 ≤ 140737488351232 → (∀ x ∈ l1, (Lit.int .u8 x).wf = true) → ∃ k, laws_FnTakesPlayed.f k l0 l1 = some true
theorem laws_FnTakesPlayed.walk (P : laws_FnTakesPlayed.Pure) (a0 : Option Addr) (len0 cap0 : Nat) (z0 : List Int) (a1 : Option Addr) (len1 cap1 : Nat) (z1 : List Int) (w : World) (w0 : (a0 = none ∧ len0 = 0 ∧ cap0 = 0 ∧ z0 = []) ∨ ∃ x, a0 = some x ∧ len0 ≤ cap0 ∧ cap0 ≤ maxLen ∧ z0.length = cap0 ∧ (∀ i, i < z0.length → w.cell? (x.add i) = some (.int .u8 (z0.getD i 0))) ∧ ∀ n ∈ z0, (Lit.int .u8 n).wf = true) (y0 : len0 * 1 ≤ 140737488351232) (w1 : (a1 = none ∧ len1 = 0 ∧ cap1 = 0 ∧ z1 = []) ∨ ∃ x, a1 = some x ∧ len1 ≤ cap1 ∧ cap1 ≤ maxLen ∧ z1.length = cap1 ∧ (∀ i, i < z1.length → w.cell? (x.add i) = some (.int .u8 (z1.getD i 0))) ∧ ∀ n ∈ z1, (Lit.int .u8 n).wf = true) (y1 : len1 * 1 ≤ 140737488351232) :
 Calls Try.prog 5 #[.slice a0 len0 cap0, .slice a1 len1 cap1] w fun e w' => e = .returned (.bool true) ∧ Below w.heap.size w w' := by
 obtain ⟨l0, rfl, hr0, hm0, hw0, hc0⟩ := ReadsInt.ofRowC w0
 obtain ⟨l1, rfl, hr1, hm1, hw1, hc1⟩ := ReadsInt.ofRowC w1
 obtain ⟨k, h⟩ := P l0 l1 hm0 y0 hw0 hm1 y1 hw1
 refine (laws_FnTakesPlayed.calls k _ _ l0 _ _ l1 true w (Kd.C_of_reads (d := (0 : Int)) (h1 := fun _ => rfl) hr0) hc0 (Kd.C_of_reads (d := (0 : Int)) (h1 := fun _ => rfl) hr1) hc1 h).mono ?_
 rintro e w' ⟨rfl, hd⟩
 exact ⟨rfl, hd⟩

end Go.Proofs.Ytejbgonbnijgkaa.B
