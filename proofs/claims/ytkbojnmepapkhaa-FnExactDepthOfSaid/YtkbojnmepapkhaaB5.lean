/- The walks of functions of the given program and of its reference: each call of the machine returns what the plain Lean function of the same name says. Conditions: those in each statement. (Written by this session's program over the kit's print.) -/
import Derived.Test.YtkbojnmepapkhaaB0
import Derived.Test.YtkbojnmepapkhaaB4
namespace Go.Proofs.Ytkbojnmepapkhaa.B
open Go.RowKit Go.Proofs.YtkbojnmepapkhaaW.PrintWords Go.Proofs.YtkbojnmepapkhaaW.PrintLast Go.Proofs.YtkbojnmepapkhaaW.PrintMore
attribute [local go_sem] max2_int min2_int max_two min_two max_three min_three max_four min_four   -- for this text's walks alone
set_option linter.unusedVariables false
set_option linter.unusedSimpArgs false

/-! ### impl_levelsOf: function 70 -/
def apartV (a b : Int) : Bool := decide (2 ≤ wrap64 (a - b)) || decide (2 ≤ wrap64 (b - a))
theorem apart_calls (a b : Int) (w : World) : Calls Try.prog 88 #[.int .i64 a, .int .i64 b] w fun e w' => e = .returned (.bool (apartV a b)) ∧ Drawn0 w w' := by
  unfold apartV
  cases h1 : decide (2 ≤ wrap64 (a - b)) with
  | true =>
    go_enter Try.func88, Try.ntmps88
    go_wp2
    go_ret
    exact ⟨rfl, Drawn0.refl _⟩
  | false =>
    go_enter Try.func88, Try.ntmps88
    go_wp2
    go_ret
    exact ⟨rfl, Drawn0.refl _⟩
theorem levelsOf1_calls (x y : Int) (B : Nat) (W : World) (hcell : W.cell? ⟨B, 0, none⟩ = some (.int .i64 y)) :
    Calls Try.prog 87 #[.int .i64 x, .pointer (some ⟨B, 0, none⟩)] W fun e w' => e = .returned (.bool (!(apartV x y))) ∧ Drawn0 W w' := by
  go_enter Try.func87, Try.ntmps87
  go_wp2_with (go_at_call 88; refine (apart_calls _ _ _).mono ?_; rintro e w' ⟨rfl, ⟨q, rfl⟩⟩)
  go_ret
  exact ⟨rfl, ⟨q, rfl⟩⟩
/-- how far up a rung slides -/
def lvAt (out : List (List Int)) (y : Int) : Nat → Nat
  | 0 => 0
  | t + 1 => if (out.getD t []).any (fun o => !(apartV o y)) = true then t + 1 else lvAt out y t
theorem lvAt_le (out : List (List Int)) (y : Int) : ∀ t, lvAt out y t ≤ t
  | 0 => Nat.le_refl _
  | t + 1 => by
    rw [lvAt]
    split
    · exact Nat.le_refl _
    · exact Nat.le_succ_of_le (lvAt_le out y t)
def lvPut (out : List (List Int)) (y : Int) : List (List Int) := if lvAt out y out.length = out.length then out ++ [[y]] else out.set (lvAt out y out.length) (out.getD (lvAt out y out.length) [] ++ [y])
def lvPuts (out : List (List Int)) (l : List Int) : List (List Int) := l.foldl lvPut out
def sortAll (k : Nat) : List (List Int) → Option (List (List Int))
  | [] => some []
  | x :: xs => (slices_Sort_int_int.f k x).bind fun y => (sortAll k xs).bind fun ys => some (y :: ys)
def LvB (i : Nat) (out : List (List Int)) : Prop := ∀ x, x ∈ out → x.length ≤ i
theorem LvB.getD {i : Nat} {out : List (List Int)} (h : LvB i out) (t : Nat) : (out.getD t []).length ≤ i := by
  rw [List.getD_eq_getElem?_getD]
  cases hx : out[t]? with
  | none => exact Nat.zero_le _
  | some x => exact h x (List.mem_of_getElem? hx)
theorem LvB.snoc {i : Nat} {out : List (List Int)} (h : LvB i out) : LvB i (out ++ [[]]) := by
  intro x hx
  rcases List.mem_append.1 hx with hx | hx
  · exact h x hx
  · rw [List.mem_singleton.1 hx]; exact Nat.zero_le _
theorem LvB.set {i : Nat} {out : List (List Int)} (h : LvB i out) {t : Nat} {z : List Int} (hz : z.length ≤ i + 1) : LvB (i + 1) (out.set t z) := by
  intro x hx
  rcases List.mem_or_eq_of_mem_set hx with hx | hx
  · exact Nat.le_succ_of_le (h x hx)
  · rw [hx]; exact hz
theorem lv1_enters : ∀ args w, (callFunc 87 args).run Try.prog w = .ok (.enter 87 args) w := enters_of Try.func87 (by kernel_rfl) rfl
theorem lvInfo : (Try.prog.info? 22).map (fun i => (i.zero, i.size, i.bytes)) = some (some (.slice none 0 0), 1, 24) := by kernel_rfl
theorem cellH {w w1 : World} {g i : Nat} (h : w1.heap[g]? = w.heap[g]?) : w1.cell? ⟨g, i, none⟩ = w.cell? ⟨g, i, none⟩ := by simp [World.cell?, h]
theorem frozenH {w w1 : World} {g i : Nat} (h : w1.heap[g]? = w.heap[g]?) : w1.frozen? ⟨g, i, none⟩ = w.frozen? ⟨g, i, none⟩ := by simp [World.frozen?, h]
theorem skip_stepL {P : Program} {ops : Array Oper} {o : Oper} {a : Act} {Q : Exit → Act → World → Prop} {Kc : Act → World → Prop} {W w1 : World} (hw : Region.wanted o (yielded ops a.tmps) = true) (hN : o.dst = none) (hrun : (execOp a.eval o).run P W = .ok .skip w1) (h : Kc a w1) : if Region.wanted o (yielded ops a.tmps) = true then Oper.wp P o a W Kc Q else Kc (a.put o.dst undef) W := by
  rw [if_pos hw]
  unfold Oper.wp
  rw [hrun]
  show Kc (a.put o.dst undef) w1
  rw [hN]
  exact h
theorem sortAll_mono (k : Nat) : ∀ xs, LeO (sortAll k xs) (sortAll (k + 1) xs)
  | [] => LeO.refl _
  | x :: xs => LeO.bind (slices_Sort_int_int.mono _ _) fun _ => LeO.bind (sortAll_mono k xs) fun _ => LeO.refl _
def impl_levelsOf.f (k : Nat) (a : Int) (l0 : List Int) : Option (List (List Int)) := if l0.length ≤ 1000 then sortAll k (lvPuts [] l0) else none
theorem impl_levelsOf.mono : ∀ a0 a1 k, LeO (impl_levelsOf.f k a0 a1) (impl_levelsOf.f (k + 1) a0 a1) := fun _ _ k => LeO.ite (sortAll_mono k _) (LeO.refl _)
set_option maxHeartbeats 4000000 in
set_option maxRecDepth 100000 in
theorem impl_levelsOf.calls (k : Nat) (a0_0 : Int) (A0_1 : Option Addr) (c0_1 : Nat) (l0_1 : List Int) (r : List (List Int)) (w : World) (hr0_1 : Kd.C (Kd.int .i64) w A0_1 l0_1.length l0_1) (hc0_1 : l0_1.length ≤ c0_1) (h : impl_levelsOf.f k a0_0 l0_1 = some r) :
    Calls Try.prog 70 #[.agg #[.int .i64 a0_0, .slice A0_1 l0_1.length c0_1]] w fun e w' => ∃ v0_ : Value, e = .returned v0_ ∧ Kd.S (Kd.slice 3 (Kd.int .i64)) 22 w' w.heap.size (fun _ => True) v0_ r ∧ Below w.heap.size w w' := by
  -- ONLY 89 85
  have hu28 := Try.underlying33
  unfold impl_levelsOf.f at h
  by_cases hn : l0_1.length ≤ 1000
  case neg => rw [if_neg hn] at h; cases h
  rw [if_pos hn] at h
  obtain ⟨LO, hLO⟩ : ∃ LO, LO = lvPuts [] l0_1 := ⟨_, rfl⟩
  rw [← hLO] at h
  have HR := Aside0.mk hr0_1
  have HC := Aside0.mk hc0_1
  have HN := Lib.hid hn
  have HB := Aside0.mk (Below.refl w.heap.size w)
  have HSA := Aside0.mk h
  have HLO := Aside0.mk hLO
  clear hr0_1 hc0_1 h hn hLO
  go_enter Try.func70, Try.ntmps70
  go_wp2_with (first | ((with_reducible refine gate_dst (N := 1) rfl ?_); refine box_event ?hg (N := 1) ?hd (cs := #[.int .i64 a0_0, .slice A0_1 l0_1.length c0_1]) (t := 33) ?hr ?_; (case hd => rfl); (case hg => rfl); (case hr => first | (go_simp; done) | (go_simp; rfl)); intro gb hg w1 hbox hb; have n0_ := Aside0.mk (below_step HB.out hb); clear HB; have HB := n0_; clear n0_; have BKL := Aside0.mk hbox; clear hbox hb hg) | ((with_reducible refine gate_dst (N := 9) rfl ?_); refine Kd.S_lit (Kd.slice 3 (Kd.int .i64)) _ 22 ?hg (N := 9) ?hd (xs := ([] : List (List Int))) (inner := []) (ok := fun _ => True) (okp := fun _ => True) ?hr ?hp (fun _ hk => hk) trivial (Below.refl _ _) (Nat.le_refl _) (by simp) ?_; (case hd => rfl); (case hg => rfl); (case hr => first | (go_simp; done) | (go_simp; rfl)); (case hp => exact (Reps.none _ _)); intro v9 w2 ho hb hg_ hnew_; clear hg_ hnew_; have HO := Aside0.mk (Kd.S_lower ho (below_size HB.out)); have n0_ := Aside0.mk (below_step HB.out hb); have hcx1 : w2.cell? ⟨gb, 1, none⟩ = some (.slice A0_1 l0_1.length c0_1) := (blk_cell (blk_below BKL.out hb) 1).trans rfl; clear HB BKL hb ho; have HB := n0_; clear n0_))
  clear hcx1
  go_loopg [3, 13] l0_1.length (fun gg v3 v13 wr => ∃ (d i : Nat) (out : List (List Int)), d ≤ gg ∧ i + d = l0_1.length ∧ v13 = .int .i64 (i : Int) ∧ Aside0 (lvPuts out (l0_1.drop i) = LO) ∧ Aside0 (out.length ≤ i) ∧ Aside0 (LvB i out) ∧ Aside0 (Kd.S (Kd.slice 3 (Kd.int .i64)) 22 wr w.heap.size (fun _ => True) v3 out) ∧ Aside0 (Below w.heap.size w wr))
  case atStart => exact ⟨l0_1.length, 0, [], Nat.le_refl _, Nat.zero_add _, rfl, ⟨HLO.out.symm⟩, ⟨Nat.le_refl _⟩, ⟨fun x hx => by cases hx⟩, HO, HB⟩
  case round =>
    clear HO HB HLO
    obtain ⟨d, i, out, hgg, hid, rfl, HLO, HL, HLB, HO, HB⟩ := hrel
    cases d with
    | zero =>
      have d1 : decide (i < l0_1.length) = false := decide_eq_false (by omega)
      have hlo := HLO.out
      rw [List.drop_eq_nil_of_le (by omega), lvPuts, List.foldl_nil] at hlo
      subst hlo
      obtain ⟨Ao, co, eo⟩ := Kd.S_slice HO.out
      subst eo
      have HOL := Lib.hid (show out.length ≤ 1000 by have := HL.out; have := HN.out; omega)
      clear hgg hid HLO HL HLB
      go_wp2
      go_loopg [53] out.length (fun gg v53 wi => ∃ (d2 j : Nat) (dn rest : List (List Int)), d2 ≤ gg ∧ j + d2 = out.length ∧ v53 = .int .i64 (j : Int) ∧ Aside0 (dn.length = j) ∧ Aside0 (sortAll k (out.drop j) = some rest) ∧ Aside0 (dn ++ rest = r) ∧ Aside0 (Kd.S (Kd.slice 3 (Kd.int .i64)) 22 wi w.heap.size (fun _ => True) (.slice Ao out.length co) (dn ++ out.drop j)) ∧ Aside0 (Below w.heap.size w wi))
      case atStart => exact ⟨out.length, 0, [], r, Nat.le_refl _, Nat.zero_add _, rfl, ⟨rfl⟩, ⟨HSA.out⟩, ⟨rfl⟩, ⟨HO.out⟩, ⟨HB.out⟩⟩
      case round =>
        clear HO HB HSA
        obtain ⟨d2, j, dn, rest, hgg, hjd, rfl, HDL, HSA, HDR, HO, HB⟩ := hrel
        cases d2 with
        | zero =>
          have d3 : decide (j < out.length) = false := decide_eq_false (by omega)
          have hsa := HSA.out
          rw [List.drop_eq_nil_of_le (by omega), sortAll] at hsa
          injection hsa with hsa
          subst hsa
          have ho := HO.out
          have hdr := HDR.out
          rw [List.append_nil] at hdr
          rw [List.drop_eq_nil_of_le (by omega), List.append_nil, hdr] at ho
          have HO2 := Aside0.mk ho
          clear ho hdr HDR HO hgg hjd
          go_wp2
          go_ret
          exact ⟨_, rfl, HO2.out, HB.out⟩
        | succ d2 =>
          have hlt : j < out.length := by omega
          have d3 : decide (j < out.length) = true := decide_eq_true hlt
          have hsa := HSA.out
          rw [List.drop_eq_getElem_cons hlt, sortAll] at hsa
          replace hsa := Option.bind_eq_some_iff.mp hsa
          obtain ⟨Y, hY, hsa⟩ := hsa
          replace hsa := Option.bind_eq_some_iff.mp hsa
          obtain ⟨ys, hys, hsa⟩ := hsa
          injection hsa with hsa
          have ho := HO.out
          rw [List.drop_eq_getElem_cons hlt] at ho
          obtain ⟨X, hX⟩ : ∃ X, X = out[j] := ⟨_, rfl⟩
          rw [← hX] at hY ho
          have hgd : (dn ++ X :: out.drop (j + 1)).getD j [] = X := by
            rw [List.getD_eq_getElem?_getD, List.getElem?_append_right (by rw [HDL.out]; exact Nat.le_refl _), HDL.out, Nat.sub_self]; rfl
          have hst : (dn ++ X :: out.drop (j + 1)).set j Y = (dn ++ [Y]) ++ out.drop (j + 1) := by
            rw [List.set_append_right _ _ (by rw [HDL.out]; exact Nat.le_refl _), HDL.out, Nat.sub_self, List.append_assoc]; rfl
          obtain ⟨go, cap, ev, _, _, _⟩ := Kd.S_form ho (by rw [List.length_append, List.length_cons]; omega)
          injection ev with ev1 ev2 ev3
          subst ev1
          obtain rfl : cap = co := ev3.symm
          clear ev2
          obtain ⟨oki, c, hcl, hM, hcc, hfr, hoki, hH⟩ := Kd.S_elem ho [] (j : Int) (by omega) (by omega)
          obtain ⟨vj, rfl, hRj⟩ := hM
          have hvj := hcc 0 vj rfl
          rw [show ((j : Int)).toNat = j from rfl] at hvj hRj
          rw [hgd] at hRj
          have hvj2 : wr.cell? ⟨go, j, none⟩ = some vj := by simpa [Kd.slice] using hvj
          have HRJ := Aside0.mk hRj
          have HHH := Aside0.mk hH
          have HSY := Aside0.mk hY
          have HYS := Aside0.mk hys
          have HST := Aside0.mk hst
          have HRE := Aside0.mk (show (dn ++ [Y]) ++ ys = r by rw [← HDR.out, ← hsa, List.append_assoc]; rfl)
          have HJ := Lib.hid hlt
          have HGJ := Lib.hid hgg
          have HJD := Lib.hid hjd
          have HWJ := Lib.hid (show wrap64 ((j : Int) + 1) = ((j + 1 : Nat) : Int) by have := HOL.out; unfold wrap64; omega)
          have p5 : 0 ≤ ((j : Nat) : Int) := by omega
          have q5 : ((j : Nat) : Int) < ((out.length : Nat) : Int) := by omega
          replace p5 := eq_true p5
          replace q5 := eq_true q5
          clear hsa ho hX hgd hst hcl hcc hfr hoki hH hvj hRj hY hys hgg hjd hlt HO HSA HDR
          go_wp2_with (first | ((with_reducible refine (slices_Sort_int_int.calls k oki vj X Y w _ HB.out HRJ.out HSY.out).mono ?_); rintro e w5 ⟨rfl, ho, hb, hk⟩; have n0_ := Aside0.mk (Kd.H_back (Kd.H_step HHH.out (fun k_ _ hn hl => hk.2 k_ hl hn)) ⟨vj, rfl, Kd.R_tight rfl ho⟩ (fun k_ hk_ => HRJ.out.1 k_ hk_.symm)); have n1_ := Aside0.mk hb; clear HB HHH ho hb hk; have HS5 := n0_; have HB := n1_; clear n0_ n1_))
          go_roundg d2
          case measure => have := HGJ.out; omega
          case rel => exact ⟨d2, j + 1, dn ++ [Y], ys, Nat.le_refl _, by have := HJD.out; omega, by rw [← HWJ.out], ⟨by rw [List.length_append, HDL.out]; rfl⟩, HYS, HRE, ⟨by have h1 := HS5.out; rw [show ((j : Int)).toNat = j from rfl, HST.out] at h1; exact h1⟩, HB⟩
    | succ d =>
      have d1 : decide (i < l0_1.length) = true := decide_eq_true (by omega)
      have hlt : i < l0_1.length := by omega
      have p1 : 0 ≤ ((i : Nat) : Int) := by omega
      have q1 : ((i : Nat) : Int) < (l0_1.length : Int) := by omega
      obtain ⟨ad1, e1, hx1_0⟩ := Kd.at_int HR.out (i : Int) p1 q1
      cases e1
      obtain ⟨y, hy⟩ : ∃ y, l0_1[i] = y := ⟨_, rfl⟩
      have hrd : rd l0_1 (i : Int) = y := by rw [← hy]; unfold rd; simp [hlt]
      rw [hrd, show ((i : Int)).toNat = i from rfl] at hx1_0
      replace hx1_0 := (HB.out.cell (World.block_lt_of_cell? w _ hx1_0)).trans hx1_0
      have hlo := HLO.out
      rw [List.drop_eq_getElem_cons hlt, hy, lvPuts, List.foldl_cons] at hlo
      have HLO2 := Aside0.mk (show lvPuts (lvPut out y) (l0_1.drop (i + 1)) = LO from hlo)
      have HGG := Lib.hid hgg
      have HID := Lib.hid hid
      have HWI := Lib.hid (show wrap64 ((i : Int) + 1) = ((i + 1 : Nat) : Int) by have := HN.out; unfold wrap64; omega)
      replace p1 := eq_true p1
      replace q1 := eq_true q1
      obtain ⟨Ao, co, eo⟩ := Kd.S_slice HO.out
      subst eo
      clear hlo hy hrd hlt hgg hid HLO
      have HGa := Aside0.mk (blk_new wr (.cells #[.int .i64 y] 3 (0, 0)))
      have HOa := Aside0.mk (Kd.S_mono (Kd.S_alloc (Kd.S_elderB HO.out wr.heap.size (Nat.le_refl _)) (.cells #[.int .i64 y] 3 (0, 0))) (fun k_ h_ => (h_.2 : k_ ≠ wr.heap.size)))
      have HBa := Aside0.mk (below_alloc HB.out (.cells #[.int .i64 y] 3 (0, 0)))
      have HIL := Lib.hid (show i < l0_1.length by have := HID.out; omega)
      have HON := Lib.hid (show out.length ≤ 1000 by have := HL.out; have := HN.out; have := HIL.out; omega)
      clear HO HB
      go_wp2
      clear hx1_0
      obtain ⟨AT, hAT⟩ : ∃ AT, AT = lvAt out y out.length := ⟨_, rfl⟩
      have HAT0 := Aside0.mk hAT
      clear hAT
      go_loopg [6] out.length (fun gg v6 wi => ∃ (t q : Nat), t ≤ out.length ∧ t ≤ gg ∧ v6 = .int .i64 (t : Int) ∧ wi = (wr.alloc (.cells #[.int .i64 y] 3)).drewN q ∧ Aside0 (lvAt out y t = lvAt out y out.length))
      case atStart => exact ⟨out.length, 0, Nat.le_refl _, Nat.le_refl _, rfl, rfl, ⟨rfl⟩⟩
      case round =>
        obtain ⟨t, q, htl, hgt, rfl, rfl, HAA⟩ := hrel
        have n0_ := Aside0.mk (Kd.S_drewN HOa.out q)
        have n1_ := Aside0.mk (pw_below_drewN HBa.out q)
        have n2_ := Aside0.mk (blk_drewN HGa.out q)
        clear HOa HBa HGa
        have HOa := n0_
        have HBa := n1_
        have HGa := n2_
        clear n0_ n1_ n2_
        by_cases ht0 : t = 0
        · have dz1 : decide (0 < t) = false := decide_eq_false (by omega)
          have dz2 : decide ((0 : Int) < (t : Int)) = false := decide_eq_false (by omega)
          have HAT := Aside0.mk (show lvAt out y out.length = t by rw [← HAA.out, ht0]; rfl)
          generalize (wr.alloc (.cells #[.int .i64 y] 3)).drewN q = wz at HOa HBa HGa ⊢
          generalize wr.heap.size = gr at HOa HGa ⊢
          have htl2 := htl
          clear ht0 hgt HAA HAT0
          by_cases hE : t = out.length
          · clear htl
            have HEQ := Lib.hid hE
            have e1 : (t == out.length) = true := by simp [hE]
            have e2 : ((t : Int) == (out.length : Int)) = true := by simp [hE]
            clear hE
            go_wp2_with (first | ((with_reducible refine gate_builtin (b := .append) (xs := #[.tmp 37, .tmp 38]) rfl ?_); at_builtin; refine Kd.S_append (Kd.slice 3 (Kd.int .i64)) (w0 := w) w.heap.size rfl (.tmp 37) (.tmp 38) 23 22 (.slice none 0 0) 24 rfl Try.underlying23 lvInfo rfl (by decide) (by omega) (.slice Ao out.length co) out [] [.slice none 0 0] (fun k_ => k_ ≠ gr) (fun _ => False) rfl rfl ?aP (fun _ hk => hk.elim) ?aF ?aO ?aB ?aS ?aL ?_; (case aP => exact ⟨_, rfl, Kd.R_nil _ _ _ _ _⟩); (case aB => exact HBa.out); (case aF => exact (fun k_ hk => Nat.ne_of_gt (Nat.lt_of_lt_of_le (blk_lt HGa.out) hk))); (case aO => exact Kd.S_mono HOa.out (fun k_ h_ => ⟨h_, fun h => h⟩)); (case aS => exact HBa.out.size); (case aL => exact (by have := HN.out; have := HL.out; have := HIL.out; omega)); intro v2 wA ho hb hg hat; have n0_ := Aside0.mk ho; have n1_ := Aside0.mk hb; have n2_ := Aside0.mk (blk_grown HGa.out hg (fun e_ => ((Kd.S_R HOa.out).1 gr e_.symm) rfl)); clear HOa HBa HGa ho hb hg hat; have HOa := n0_; have HBa := n1_; have HGa := n2_; clear n0_ n1_ n2_))
            obtain ⟨O2, hO2⟩ : ∃ O, O = out ++ [[]] := ⟨_, rfl⟩
            rw [← hO2] at HOa
            have HO2 := Aside0.mk hO2
            have hpos : 0 < O2.length := by rw [hO2]; simp
            obtain ⟨go, cap, ev, _, _, _⟩ := Kd.S_form HOa.out hpos
            subst ev
            have HTL := Lib.hid (show t < O2.length by rw [hO2, HEQ.out]; simp)
            have HLBO := Aside0.mk (show LvB i O2 by rw [hO2]; exact HLB.out.snoc)
            have HO2L := Lib.hid (show O2.length ≤ out.length + 1 by rw [hO2]; simp)
            clear hpos hO2
            have htl : t < O2.length := HTL.out
            have hOb := Kd.S_mono (Kd.S_bound HOa.out) (fun k_ h_ => (⟨h_.1, Nat.not_le.2 h_.2.2.1⟩ : k_ ≠ gr ∧ ¬ (wA.heap.size ≤ k_)))
            obtain ⟨oki, c, hcl, hM, hcc, hfr, hoki, hH⟩ := Kd.S_elem hOb [] (t : Int) (by omega) (by omega)
            obtain ⟨vt, rfl, hRt⟩ := hM
            have hvt : wA.cell? ⟨go, t, none⟩ = some vt := by have h1 := hcc 0 vt rfl; rw [show ((t : Int)).toNat = t from rfl] at h1; simpa [Kd.slice] using h1
            have hfz : wA.frozen? ⟨go, t, none⟩ = false := by have h1 := hfr 0; rw [show ((t : Int)).toNat = t from rfl] at h1; simpa [Kd.slice] using h1
            have hgo : go < wA.heap.size := (Kd.S_lt HOa.out) go (by simp [Value.ownBlock])
            have hgr : gr < wA.heap.size := blk_lt HGa.out
            have hogr : ∀ k_, oki k_ → k_ ≠ gr := fun k_ h_ => (hoki k_ h_).1.1
            have hogo : ∀ k_, oki k_ → k_ ≠ go := fun k_ h_ => (hoki k_ h_).2
            obtain ⟨X, hX⟩ : ∃ X, X = O2.getD t [] := ⟨_, rfl⟩
            rw [show ((t : Int)).toNat = t from rfl, ← hX] at hRt
            have HRT := Aside0.mk (Kd.R_mono hRt (fun k_ h_ => (Or.inl h_ : oki k_ ∨ wA.heap.size ≤ k_)))
            have HRB := Aside0.mk hRt.1
            have HHH := Aside0.mk hH
            have HVT := Aside0.mk hvt
            have HFZ := Aside0.mk hfz
            have HGO := Lib.hid hgo
            have HGR := Lib.hid hgr
            have HGG2 := Aside0.mk hogr
            have HGG3 := Aside0.mk hogo
            have HX := Aside0.mk hX
            have p3 : 0 ≤ ((t : Nat) : Int) := by omega
            have q3 : ((t : Nat) : Int) < ((O2.length : Nat) : Int) := by omega
            replace p3 := eq_true p3
            replace q3 := eq_true q3
            clear hOb hcl hcc hfr hoki hH hvt hfz hgo hgr hogr hogo hX hRt htl HOa
            have HXL := Lib.hid (show X.length ≤ i by rw [HX.out]; exact LvB.getD HLBO.out t)
            refine start_ (n := 11) (S := fun w' => w'.cell? ⟨go, t, none⟩ = some vt ∧ w'.cell? ⟨gr, 0, none⟩ = some (.int .i64 y)) (ds := [10]) #[false, false, false, false, false, false, false, false, false, false, false] (by kernel_rfl) rfl rfl ⟨HVT.out, (blk_cell HGa.out 0).trans rfl⟩ (fun hHeld => ?_)
            refine pure_ (i := 0) (N := some 40) (v := ?_) (a' := ?_) #[true, false, false, false, false, false, false, false, false, false, false] rfl rfl (by kernel_rfl) (fun _ _ _ h => h) (Or.inl ⟨by rfl, ?_⟩) ?_ ?_
            rotate_left
            · intro w'
              go_simp
              with_reducible rfl
            rotate_left
            · simp only [Act.put, List.setIfInBounds_toArray, List.set_cons_zero, List.set_cons_succ, i64_w, i32_w]
              rfl
            refine pure_ (i := 1) (N := some 41) (v := ?_) (a' := ?_) #[true, true, false, false, false, false, false, false, false, false, false] rfl rfl (by kernel_rfl) (fun _ _ _ h => h) (Or.inl ⟨by rfl, ?_⟩) ?_ ?_
            rotate_left
            · intro w'
              go_simp
              with_reducible rfl
            rotate_left
            · simp only [Act.put, List.setIfInBounds_toArray, List.set_cons_zero, List.set_cons_succ, i64_w, i32_w]
              rfl
            refine pure_ (i := 2) (N := some 42) (v := ?_) (a' := ?_) #[true, true, true, false, false, false, false, false, false, false, false] rfl rfl (by kernel_rfl) (fun _ _ _ h => h) (Or.inl ⟨by rfl, ?_⟩) ?_ ?_
            rotate_left
            · intro w'
              go_simp
              with_reducible rfl
            rotate_left
            · simp only [Act.put, List.setIfInBounds_toArray, List.set_cons_zero, List.set_cons_succ, i64_w, i32_w]
              rfl
            refine pure_ (i := 3) (N := some 43) (v := ?_) (a' := ?_) #[true, true, true, true, false, false, false, false, false, false, false] rfl rfl (by kernel_rfl) (fun _ _ _ h => h) (Or.inl ⟨by rfl, ?_⟩) ?_ ?_
            rotate_left
            · intro w'
              go_simp
              with_reducible rfl
            rotate_left
            · simp only [Act.put, List.setIfInBounds_toArray, List.set_cons_zero, List.set_cons_succ, i64_w, i32_w]
              rfl
            refine pure_ (i := 4) (N := some 44) (v := ?_) (a' := ?_) #[true, true, true, true, true, false, false, false, false, false, false] rfl rfl (by kernel_rfl) (fun _ _ _ h => h) (Or.inl ⟨by rfl, ?_⟩) ?_ ?_
            rotate_left
            · intro w'
              go_simp
              with_reducible rfl
            rotate_left
            · simp only [Act.put, List.setIfInBounds_toArray, List.set_cons_zero, List.set_cons_succ, i64_w, i32_w]
              rfl
            refine take_ (i := 5) (N := some 45) (v := ?_) (a' := ?_) #[true, true, true, true, true, true, false, false, false, false, false] rfl rfl (by kernel_rfl) (fun _ _ _ h => h) (Or.inl ⟨by rfl, ?_⟩) hHeld ?_ ?_
            rotate_left
            · rintro w' ⟨s0, s1⟩
              go_simp
              with_reducible rfl
            rotate_left
            · simp only [Act.put, List.setIfInBounds_toArray, List.set_cons_zero, List.set_cons_succ, i64_w, i32_w]
              rfl
            refine take_ (i := 6) (N := some 46) (v := ?_) (a' := ?_) #[true, true, true, true, true, true, true, false, false, false, false] rfl rfl (by kernel_rfl) (fun _ _ _ h => h) (Or.inl ⟨by rfl, ?_⟩) hHeld ?_ ?_
            rotate_left
            · rintro w' ⟨s0, s1⟩
              go_simp
              with_reducible rfl
            rotate_left
            · simp only [Act.put, List.setIfInBounds_toArray, List.set_cons_zero, List.set_cons_succ, i64_w, i32_w]
              rfl
            have HBd := Aside0.mk (below_drew1 HBa.out)
            have HRTd := Aside0.mk (Kd.R_drew HRT.out)
            have HHd := Aside0.mk (Kd.H_drew HHH.out)
            have HGd := Aside0.mk (blk_drew HGa.out)
            have HVd := Aside0.mk (show wA.drew.cell? ⟨go, t, none⟩ = some vt from HVT.out)
            have HFd := Aside0.mk (show wA.drew.frozen? ⟨go, t, none⟩ = false from HFZ.out)
            have HSd := Aside0.mk (show wA.drew.heap.size = wA.heap.size from rfl)
            generalize wA.drew = wB at HBd HRTd HHd HGd HVd HFd HSd hHeld ⊢
            clear HRT HHH HGa HVT HFZ HBa
            refine one_ (i := 7) (N := some 47) #[true, true, true, true, true, true, true, true, false, false, false] rfl rfl (by kernel_rfl) (by decide) (fun K hK => ?_)
            refine event_step (by rfl) (v := .slice (some ⟨wB.heap.size, 0, none⟩) 1 1) (w1 := wB.alloc (.cells #[.int .i64 y] 3 (0, 0))) (by go_simp) ?_
            refine hK.out _ _ ⟨(Below.cell (below_alloc (Below.refl _ _) _) (p := ⟨go, t, none⟩) (by rw [HSd.out]; exact HGO.out)).trans HVd.out, (Below.cell (below_alloc (Below.refl _ _) _) (p := ⟨gr, 0, none⟩) (by rw [HSd.out]; exact HGR.out)).trans ((blk_cell HGd.out 0).trans rfl)⟩ (fun hHeld => ?_)
            clear hK K
            refine norm_ (a' := ?_) ?_ ?_
            rotate_left
            · show Act.put _ (some 47) _ = _
              simp only [Act.put, List.setIfInBounds_toArray, List.set_cons_zero, List.set_cons_succ, i64_w, i32_w]
              rfl
            refine one_ (i := 8) (N := some 48) #[true, true, true, true, true, true, true, true, true, false, false] rfl rfl (by kernel_rfl) (by decide) (fun K hK => ?_)
            refine Kd.R_append_step (Kd.int .i64) (w0 := w) w.heap.size (by rfl) (.tmp 45) (.tmp 47) 22 3 (.int .i64 0) 8 rfl Try.underlying22 info3 rfl (by decide) (by omega) vt X y [.int .i64 y] (fun k_ => oki k_ ∨ wA.heap.size ≤ k_) (fun _ => False) rfl rfl rfl (fun _ hk => hk.elim) (fun k_ hk => Or.inr (by rw [← HSd.out]; exact hk)) HRTd.out HBd.out HBd.out.size (by have := HXL.out; have := HIL.out; have := HN.out; omega) ?_
            intro v1_ w1 ho hb hg hat
            obtain ⟨Av, cv, ev⟩ := Kd.R_slice ho
            subst ev
            have hng : ∀ k_, vt.ownBlock = some k_ → k_ ≠ go ∧ k_ ≠ gr := fun k_ e_ => ⟨HGG3.out k_ (HRB.out k_ e_), HGG2.out k_ (HRB.out k_ e_)⟩
            have HR1 := Aside0.mk ho
            have HB1 := Aside0.mk hb
            have HH1 := Aside0.mk (Kd.H_grown HHd.out hg (fun k_ e_ => HRB.out k_ e_))
            have HG1 := Aside0.mk (blk_grown HGd.out hg (fun e_ => (hng gr e_.symm).2 rfl))
            have HV1 := Aside0.mk (show w1.cell? ⟨go, t, none⟩ = some vt by
              have h1 := hg.block go (by rw [HSd.out]; exact HGO.out) (fun e_ => (hng go e_.symm).1 rfl)
              exact (cellH h1).trans HVd.out)
            have HF1 := Aside0.mk (show w1.frozen? ⟨go, t, none⟩ = false by
              have h1 := hg.block go (by rw [HSd.out]; exact HGO.out) (fun e_ => (hng go e_.symm).1 rfl)
              exact (frozenH h1).trans HFd.out)
            clear HRTd HBd HHd HGd HVd HFd ho hb hg hat hng
            refine hK.out _ _ ⟨HV1.out, (blk_cell HG1.out 0).trans rfl⟩ (fun hHeld => ?_)
            clear hK K
            refine norm_ (a' := ?_) ?_ ?_
            rotate_left
            · show Act.put _ (some 48) _ = _
              simp only [Act.put, List.setIfInBounds_toArray, List.set_cons_zero, List.set_cons_succ, i64_w, i32_w]
              rfl
            refine pure_ (i := 9) (N := some 49) (v := ?_) (a' := ?_) #[true, true, true, true, true, true, true, true, true, true, false] rfl rfl (by kernel_rfl) (fun _ _ _ h => h) (Or.inl ⟨by rfl, ?_⟩) ?_ ?_
            rotate_left
            · intro w'
              go_simp
              with_reducible rfl
            rotate_left
            · simp only [Act.put, List.setIfInBounds_toArray, List.set_cons_zero, List.set_cons_succ, i64_w, i32_w]
              rfl
            have hcv := HV1.out
            have hcf := HF1.out
            refine last_ (i := 10) (N := none) #[true, true, true, true, true, true, true, true, true, true, true] rfl rfl (by kernel_rfl) (by decide) (fun K hK => ?_)
            refine skip_stepL (by rfl) rfl (w1 := w1.setCell ⟨go, t, none⟩ (.slice Av (X ++ [y]).length cv)) (by go_simp) ?_
            obtain ⟨hS2, hg2⟩ := Kd.S_seg (okg := fun k_ => wA.heap.size ≤ k_) (okp := fun k_ => oki k_ ∨ wA.heap.size ≤ k_) (ok := fun k_ => k_ ≠ gr) (seg := [(.slice Av (X ++ [y]).length cv)]) (j := 0) (x' := X ++ [y]) HH1.out (by omega) (by have := HTL.out; omega) (by simp [Kd.slice]) ⟨.slice Av (X ++ [y]).length cv, by simp [Kd.slice], HR1.out⟩ (fun k_ h_ => h_) (fun k_ h_ => ⟨by have := HGR.out; omega, by have := HGO.out; omega⟩)
            have HS2 := Aside0.mk (show Kd.S (Kd.slice 3 (Kd.int .i64)) 22 (w1.setCell ⟨go, t, none⟩ (.slice Av (X ++ [y]).length cv)) w.heap.size (fun k_ => k_ ≠ gr) (.slice (some ⟨go, 0, none⟩) O2.length cap) (O2.set t (X ++ [y])) by
              have h1 := hS2
              rw [show ((t : Int)).toNat = t from rfl] at h1
              simpa [Kd.slice, World.setCells] using h1)
            have HB2 := Aside0.mk (below_set (j := t) (v := .slice Av (X ++ [y]).length cv) HB1.out (Kd.S_base HS2.out go (by simp [Value.ownBlock])))
            clear hS2 hg2 hcv hcf HR1 HB1 HH1 HV1 HF1
            refine hK.out _ _ ?_
            clear hK K hHeld
            refine done_ (by kernel_rfl) ?_
            generalize w1.setCell ⟨go, t, none⟩ (.slice Av (X ++ [y]).length cv) = w8 at HS2 HB2 ⊢
            have hput : lvPut out y = O2.set t (X ++ [y]) := by
              have hat := HAT.out
              have hx := HX.out
              unfold lvPut
              rw [hat, if_pos HEQ.out, hx, HO2.out, HEQ.out, List.getD_eq_getElem?_getD, List.getElem?_append_right (Nat.le_refl _), List.set_append_right _ _ (Nat.le_refl _), Nat.sub_self]; rfl
            have HLO3 := Aside0.mk (show lvPuts (O2.set t (X ++ [y])) (l0_1.drop (i + 1)) = LO by rw [← hput]; exact HLO2.out)
            clear hput
            go_wp2
            go_roundg d
            case measure => have := HGG.out; omega
            case rel => exact ⟨d, i + 1, _, Nat.le_refl _, by have := HID.out; omega, by rw [← HWI.out], HLO3, ⟨by rw [List.length_set]; have := HL.out; have := HTL.out; first | omega | (have := HO2L.out; omega)⟩, ⟨LvB.set HLBO.out (by have := HXL.out; rw [List.length_append]; simp; omega)⟩, ⟨Kd.S_mono HS2.out (fun _ _ => trivial)⟩, HB2⟩
          · clear htl2
            have HEQ := Lib.hid hE
            have e1 : (t == out.length) = false := by simp [hE]
            have e2 : ((t : Int) == (out.length : Int)) = false := by
              have : ¬ (t : Int) = (out.length : Int) := by omega
              simp [this]
            have HTL := Lib.hid (show t < out.length by omega)
            have HLBO := HLB
            clear hE
            go_wp2
            obtain ⟨go, cap, ev, _, _, _⟩ := Kd.S_form HOa.out (by have := HTL.out; omega)
            injection ev with ev1 ev2 ev3
            subst ev1
            obtain rfl : cap = co := ev3.symm
            clear ev2
            obtain ⟨wA, rfl⟩ : ∃ x, x = wz := ⟨_, rfl⟩
            have htl : t < out.length := HTL.out
            have hOb := Kd.S_mono (Kd.S_bound HOa.out) (fun k_ h_ => (⟨h_.1, Nat.not_le.2 h_.2.2.1⟩ : k_ ≠ gr ∧ ¬ (wA.heap.size ≤ k_)))
            obtain ⟨oki, c, hcl, hM, hcc, hfr, hoki, hH⟩ := Kd.S_elem hOb [] (t : Int) (by omega) (by omega)
            obtain ⟨vt, rfl, hRt⟩ := hM
            have hvt : wA.cell? ⟨go, t, none⟩ = some vt := by have h1 := hcc 0 vt rfl; rw [show ((t : Int)).toNat = t from rfl] at h1; simpa [Kd.slice] using h1
            have hfz : wA.frozen? ⟨go, t, none⟩ = false := by have h1 := hfr 0; rw [show ((t : Int)).toNat = t from rfl] at h1; simpa [Kd.slice] using h1
            have hgo : go < wA.heap.size := (Kd.S_lt HOa.out) go (by simp [Value.ownBlock])
            have hgr : gr < wA.heap.size := blk_lt HGa.out
            have hogr : ∀ k_, oki k_ → k_ ≠ gr := fun k_ h_ => (hoki k_ h_).1.1
            have hogo : ∀ k_, oki k_ → k_ ≠ go := fun k_ h_ => (hoki k_ h_).2
            obtain ⟨X, hX⟩ : ∃ X, X = out.getD t [] := ⟨_, rfl⟩
            rw [show ((t : Int)).toNat = t from rfl, ← hX] at hRt
            have HRT := Aside0.mk (Kd.R_mono hRt (fun k_ h_ => (Or.inl h_ : oki k_ ∨ wA.heap.size ≤ k_)))
            have HRB := Aside0.mk hRt.1
            have HHH := Aside0.mk hH
            have HVT := Aside0.mk hvt
            have HFZ := Aside0.mk hfz
            have HGO := Lib.hid hgo
            have HGR := Lib.hid hgr
            have HGG2 := Aside0.mk hogr
            have HGG3 := Aside0.mk hogo
            have HX := Aside0.mk hX
            have p3 : 0 ≤ ((t : Nat) : Int) := by omega
            have q3 : ((t : Nat) : Int) < ((out.length : Nat) : Int) := by omega
            replace p3 := eq_true p3
            replace q3 := eq_true q3
            clear hOb hcl hcc hfr hoki hH hvt hfz hgo hgr hogr hogo hX hRt htl HOa
            have HXL := Lib.hid (show X.length ≤ i by rw [HX.out]; exact LvB.getD HLBO.out t)
            refine start_ (n := 11) (S := fun w' => w'.cell? ⟨go, t, none⟩ = some vt ∧ w'.cell? ⟨gr, 0, none⟩ = some (.int .i64 y)) (ds := [10]) #[false, false, false, false, false, false, false, false, false, false, false] (by kernel_rfl) rfl rfl ⟨HVT.out, (blk_cell HGa.out 0).trans rfl⟩ (fun hHeld => ?_)
            refine pure_ (i := 0) (N := some 40) (v := ?_) (a' := ?_) #[true, false, false, false, false, false, false, false, false, false, false] rfl rfl (by kernel_rfl) (fun _ _ _ h => h) (Or.inl ⟨by rfl, ?_⟩) ?_ ?_
            rotate_left
            · intro w'
              go_simp
              with_reducible rfl
            rotate_left
            · simp only [Act.put, List.setIfInBounds_toArray, List.set_cons_zero, List.set_cons_succ, i64_w, i32_w]
              rfl
            refine pure_ (i := 1) (N := some 41) (v := ?_) (a' := ?_) #[true, true, false, false, false, false, false, false, false, false, false] rfl rfl (by kernel_rfl) (fun _ _ _ h => h) (Or.inl ⟨by rfl, ?_⟩) ?_ ?_
            rotate_left
            · intro w'
              go_simp
              with_reducible rfl
            rotate_left
            · simp only [Act.put, List.setIfInBounds_toArray, List.set_cons_zero, List.set_cons_succ, i64_w, i32_w]
              rfl
            refine pure_ (i := 2) (N := some 42) (v := ?_) (a' := ?_) #[true, true, true, false, false, false, false, false, false, false, false] rfl rfl (by kernel_rfl) (fun _ _ _ h => h) (Or.inl ⟨by rfl, ?_⟩) ?_ ?_
            rotate_left
            · intro w'
              go_simp
              with_reducible rfl
            rotate_left
            · simp only [Act.put, List.setIfInBounds_toArray, List.set_cons_zero, List.set_cons_succ, i64_w, i32_w]
              rfl
            refine pure_ (i := 3) (N := some 43) (v := ?_) (a' := ?_) #[true, true, true, true, false, false, false, false, false, false, false] rfl rfl (by kernel_rfl) (fun _ _ _ h => h) (Or.inl ⟨by rfl, ?_⟩) ?_ ?_
            rotate_left
            · intro w'
              go_simp
              with_reducible rfl
            rotate_left
            · simp only [Act.put, List.setIfInBounds_toArray, List.set_cons_zero, List.set_cons_succ, i64_w, i32_w]
              rfl
            refine pure_ (i := 4) (N := some 44) (v := ?_) (a' := ?_) #[true, true, true, true, true, false, false, false, false, false, false] rfl rfl (by kernel_rfl) (fun _ _ _ h => h) (Or.inl ⟨by rfl, ?_⟩) ?_ ?_
            rotate_left
            · intro w'
              go_simp
              with_reducible rfl
            rotate_left
            · simp only [Act.put, List.setIfInBounds_toArray, List.set_cons_zero, List.set_cons_succ, i64_w, i32_w]
              rfl
            refine take_ (i := 5) (N := some 45) (v := ?_) (a' := ?_) #[true, true, true, true, true, true, false, false, false, false, false] rfl rfl (by kernel_rfl) (fun _ _ _ h => h) (Or.inl ⟨by rfl, ?_⟩) hHeld ?_ ?_
            rotate_left
            · rintro w' ⟨s0, s1⟩
              go_simp
              with_reducible rfl
            rotate_left
            · simp only [Act.put, List.setIfInBounds_toArray, List.set_cons_zero, List.set_cons_succ, i64_w, i32_w]
              rfl
            refine take_ (i := 6) (N := some 46) (v := ?_) (a' := ?_) #[true, true, true, true, true, true, true, false, false, false, false] rfl rfl (by kernel_rfl) (fun _ _ _ h => h) (Or.inl ⟨by rfl, ?_⟩) hHeld ?_ ?_
            rotate_left
            · rintro w' ⟨s0, s1⟩
              go_simp
              with_reducible rfl
            rotate_left
            · simp only [Act.put, List.setIfInBounds_toArray, List.set_cons_zero, List.set_cons_succ, i64_w, i32_w]
              rfl
            have HBd := Aside0.mk (below_drew1 HBa.out)
            have HRTd := Aside0.mk (Kd.R_drew HRT.out)
            have HHd := Aside0.mk (Kd.H_drew HHH.out)
            have HGd := Aside0.mk (blk_drew HGa.out)
            have HVd := Aside0.mk (show wA.drew.cell? ⟨go, t, none⟩ = some vt from HVT.out)
            have HFd := Aside0.mk (show wA.drew.frozen? ⟨go, t, none⟩ = false from HFZ.out)
            have HSd := Aside0.mk (show wA.drew.heap.size = wA.heap.size from rfl)
            generalize wA.drew = wB at HBd HRTd HHd HGd HVd HFd HSd hHeld ⊢
            clear HRT HHH HGa HVT HFZ HBa
            refine one_ (i := 7) (N := some 47) #[true, true, true, true, true, true, true, true, false, false, false] rfl rfl (by kernel_rfl) (by decide) (fun K hK => ?_)
            refine event_step (by rfl) (v := .slice (some ⟨wB.heap.size, 0, none⟩) 1 1) (w1 := wB.alloc (.cells #[.int .i64 y] 3 (0, 0))) (by go_simp) ?_
            refine hK.out _ _ ⟨(Below.cell (below_alloc (Below.refl _ _) _) (p := ⟨go, t, none⟩) (by rw [HSd.out]; exact HGO.out)).trans HVd.out, (Below.cell (below_alloc (Below.refl _ _) _) (p := ⟨gr, 0, none⟩) (by rw [HSd.out]; exact HGR.out)).trans ((blk_cell HGd.out 0).trans rfl)⟩ (fun hHeld => ?_)
            clear hK K
            refine norm_ (a' := ?_) ?_ ?_
            rotate_left
            · show Act.put _ (some 47) _ = _
              simp only [Act.put, List.setIfInBounds_toArray, List.set_cons_zero, List.set_cons_succ, i64_w, i32_w]
              rfl
            refine one_ (i := 8) (N := some 48) #[true, true, true, true, true, true, true, true, true, false, false] rfl rfl (by kernel_rfl) (by decide) (fun K hK => ?_)
            refine Kd.R_append_step (Kd.int .i64) (w0 := w) w.heap.size (by rfl) (.tmp 45) (.tmp 47) 22 3 (.int .i64 0) 8 rfl Try.underlying22 info3 rfl (by decide) (by omega) vt X y [.int .i64 y] (fun k_ => oki k_ ∨ wA.heap.size ≤ k_) (fun _ => False) rfl rfl rfl (fun _ hk => hk.elim) (fun k_ hk => Or.inr (by rw [← HSd.out]; exact hk)) HRTd.out HBd.out HBd.out.size (by have := HXL.out; have := HIL.out; have := HN.out; omega) ?_
            intro v1_ w1 ho hb hg hat
            obtain ⟨Av, cv, ev⟩ := Kd.R_slice ho
            subst ev
            have hng : ∀ k_, vt.ownBlock = some k_ → k_ ≠ go ∧ k_ ≠ gr := fun k_ e_ => ⟨HGG3.out k_ (HRB.out k_ e_), HGG2.out k_ (HRB.out k_ e_)⟩
            have HR1 := Aside0.mk ho
            have HB1 := Aside0.mk hb
            have HH1 := Aside0.mk (Kd.H_grown HHd.out hg (fun k_ e_ => HRB.out k_ e_))
            have HG1 := Aside0.mk (blk_grown HGd.out hg (fun e_ => (hng gr e_.symm).2 rfl))
            have HV1 := Aside0.mk (show w1.cell? ⟨go, t, none⟩ = some vt by
              have h1 := hg.block go (by rw [HSd.out]; exact HGO.out) (fun e_ => (hng go e_.symm).1 rfl)
              exact (cellH h1).trans HVd.out)
            have HF1 := Aside0.mk (show w1.frozen? ⟨go, t, none⟩ = false by
              have h1 := hg.block go (by rw [HSd.out]; exact HGO.out) (fun e_ => (hng go e_.symm).1 rfl)
              exact (frozenH h1).trans HFd.out)
            clear HRTd HBd HHd HGd HVd HFd ho hb hg hat hng
            refine hK.out _ _ ⟨HV1.out, (blk_cell HG1.out 0).trans rfl⟩ (fun hHeld => ?_)
            clear hK K
            refine norm_ (a' := ?_) ?_ ?_
            rotate_left
            · show Act.put _ (some 48) _ = _
              simp only [Act.put, List.setIfInBounds_toArray, List.set_cons_zero, List.set_cons_succ, i64_w, i32_w]
              rfl
            refine pure_ (i := 9) (N := some 49) (v := ?_) (a' := ?_) #[true, true, true, true, true, true, true, true, true, true, false] rfl rfl (by kernel_rfl) (fun _ _ _ h => h) (Or.inl ⟨by rfl, ?_⟩) ?_ ?_
            rotate_left
            · intro w'
              go_simp
              with_reducible rfl
            rotate_left
            · simp only [Act.put, List.setIfInBounds_toArray, List.set_cons_zero, List.set_cons_succ, i64_w, i32_w]
              rfl
            have hcv := HV1.out
            have hcf := HF1.out
            refine last_ (i := 10) (N := none) #[true, true, true, true, true, true, true, true, true, true, true] rfl rfl (by kernel_rfl) (by decide) (fun K hK => ?_)
            refine skip_stepL (by rfl) rfl (w1 := w1.setCell ⟨go, t, none⟩ (.slice Av (X ++ [y]).length cv)) (by go_simp) ?_
            obtain ⟨hS2, hg2⟩ := Kd.S_seg (okg := fun k_ => wA.heap.size ≤ k_) (okp := fun k_ => oki k_ ∨ wA.heap.size ≤ k_) (ok := fun k_ => k_ ≠ gr) (seg := [(.slice Av (X ++ [y]).length cv)]) (j := 0) (x' := X ++ [y]) HH1.out (by omega) (by have := HTL.out; omega) (by simp [Kd.slice]) ⟨.slice Av (X ++ [y]).length cv, by simp [Kd.slice], HR1.out⟩ (fun k_ h_ => h_) (fun k_ h_ => ⟨by have := HGR.out; omega, by have := HGO.out; omega⟩)
            have HS2 := Aside0.mk (show Kd.S (Kd.slice 3 (Kd.int .i64)) 22 (w1.setCell ⟨go, t, none⟩ (.slice Av (X ++ [y]).length cv)) w.heap.size (fun k_ => k_ ≠ gr) (.slice (some ⟨go, 0, none⟩) out.length cap) (out.set t (X ++ [y])) by
              have h1 := hS2
              rw [show ((t : Int)).toNat = t from rfl] at h1
              simpa [Kd.slice, World.setCells] using h1)
            have HB2 := Aside0.mk (below_set (j := t) (v := .slice Av (X ++ [y]).length cv) HB1.out (Kd.S_base HS2.out go (by simp [Value.ownBlock])))
            clear hS2 hg2 hcv hcf HR1 HB1 HH1 HV1 HF1
            refine hK.out _ _ ?_
            clear hK K hHeld
            refine done_ (by kernel_rfl) ?_
            generalize w1.setCell ⟨go, t, none⟩ (.slice Av (X ++ [y]).length cv) = w8 at HS2 HB2 ⊢
            have hput : lvPut out y = out.set t (X ++ [y]) := by
              have hat := HAT.out
              have hx := HX.out
              unfold lvPut
              rw [hat, if_neg HEQ.out, hx]
            have HLO3 := Aside0.mk (show lvPuts (out.set t (X ++ [y])) (l0_1.drop (i + 1)) = LO by rw [← hput]; exact HLO2.out)
            clear hput
            go_wp2
            go_roundg d
            case measure => have := HGG.out; omega
            case rel => exact ⟨d, i + 1, _, Nat.le_refl _, by have := HID.out; omega, by rw [← HWI.out], HLO3, ⟨by rw [List.length_set]; have := HL.out; have := HTL.out; first | omega | (have := HO2L.out; omega)⟩, ⟨LvB.set HLBO.out (by have := HXL.out; rw [List.length_append]; simp; omega)⟩, ⟨Kd.S_mono HS2.out (fun _ _ => trivial)⟩, HB2⟩
        · obtain ⟨t1, ht1⟩ : ∃ t1, t = t1 + 1 := ⟨t - 1, by omega⟩
          have dz1 : decide (0 < t) = true := decide_eq_true (by omega)
          have dz2 : decide ((0 : Int) < (t : Int)) = true := decide_eq_true (by omega)
          have ew : wrap64 ((t : Int) - 1) = (t1 : Int) := by have := HON.out; unfold wrap64; omega
          obtain ⟨go0, cap0, ev0, _, _, _⟩ := Kd.S_form HOa.out (by omega)
          injection ev0 with ev1 ev2 ev3
          subst ev1
          obtain rfl : cap0 = co := ev3.symm
          clear ev2
          obtain ⟨c1, hcl1, hM1, hcc1⟩ := Kd.S_get HOa.out [] (t1 : Int) (by omega) (by omega)
          obtain ⟨vj, rfl, hRj⟩ := hM1
          have hvj := hcc1 0 vj rfl
          rw [show ((t1 : Int)).toNat = t1 from rfl] at hvj hRj
          have hvj2 : ((wr.alloc (.cells #[.int .i64 y] 3)).drewN q).cell? ⟨go0, t1, none⟩ = some vj := by rw [add_at] at hvj; simpa [Kd.slice] using hvj
          obtain ⟨Xj, hXj⟩ : ∃ X, X = out.getD t1 [] := ⟨_, rfl⟩
          rw [← hXj] at hRj
          obtain ⟨Aj, cj, ej⟩ := Kd.R_slice hRj
          subst ej
          have hcon := ContainsFunc_calls (fun o => !(apartV o y)) 87 #[.pointer (some ⟨wr.heap.size, 0, none⟩)] lv1_enters Aj cj Xj _ (Kd.R_reads' hRj).2.2 (fun W' x _ hb => levelsOf1_calls x y wr.heap.size W' ((hb.cell (p := ⟨wr.heap.size, 0, none⟩) (blk_lt HGa.out)).trans ((blk_cell HGa.out 0).trans rfl)))
          have HCON := Aside0.mk hcon
          have p4 : 0 ≤ ((t1 : Nat) : Int) := by clear ew; omega
          have q4 : ((t1 : Nat) : Int) < ((out.length : Nat) : Int) := by clear ew; omega
          replace p4 := eq_true p4
          replace q4 := eq_true q4
          have HXJ := Aside0.mk hXj
          have HT1 := Lib.hid ht1
          clear hcl1 hcc1 hvj hRj hXj hcon ht0 ht1 HAT0
          cases hany : Xj.any (fun o => !(apartV o y)) with
          | true =>
            rw [hany] at HCON
            have HAT := Aside0.mk (show lvAt out y out.length = t by rw [← HAA.out, HT1.out, lvAt, if_pos (by rw [← HXJ.out]; exact hany)])
            generalize (wr.alloc (.cells #[.int .i64 y] 3)).drewN q = wz at HOa HBa HGa HCON hvj2 ⊢
            generalize wr.heap.size = gr at HOa HGa HCON ⊢
            have htl2 := htl
            clear hgt HAA hany
            by_cases hE : t = out.length
            · clear htl
              have HEQ := Lib.hid hE
              have e1 : (t == out.length) = true := by simp [hE]
              have e2 : ((t : Int) == (out.length : Int)) = true := by simp [hE]
              clear hE
              go_wp2_with (first | (go_at_call 85; refine (HCON.out).mono ?_; rintro e w' ⟨rfl, ⟨q2, rfl⟩⟩; have n0_ := Aside0.mk (Kd.S_drewN HOa.out q2); have n1_ := Aside0.mk (pw_below_drewN HBa.out q2); have n2_ := Aside0.mk (blk_drewN HGa.out q2); clear HOa HBa HGa; have HOa := n0_; have HBa := n1_; have HGa := n2_; clear n0_ n1_ n2_) | ((with_reducible refine gate_builtin (b := .append) (xs := #[.tmp 37, .tmp 38]) rfl ?_); at_builtin; refine Kd.S_append (Kd.slice 3 (Kd.int .i64)) (w0 := w) w.heap.size rfl (.tmp 37) (.tmp 38) 23 22 (.slice none 0 0) 24 rfl Try.underlying23 lvInfo rfl (by decide) (by omega) (.slice (some ⟨go0, 0, none⟩) out.length cap0) out [] [.slice none 0 0] (fun k_ => k_ ≠ gr) (fun _ => False) rfl rfl ?aP (fun _ hk => hk.elim) ?aF ?aO ?aB ?aS ?aL ?_; (case aP => exact ⟨_, rfl, Kd.R_nil _ _ _ _ _⟩); (case aB => exact HBa.out); (case aF => exact (fun k_ hk => Nat.ne_of_gt (Nat.lt_of_lt_of_le (blk_lt HGa.out) hk))); (case aO => exact Kd.S_mono HOa.out (fun k_ h_ => ⟨h_, fun h => h⟩)); (case aS => exact HBa.out.size); (case aL => exact (by have := HN.out; have := HL.out; have := HIL.out; omega)); intro v2 wA ho hb hg hat; have n0_ := Aside0.mk ho; have n1_ := Aside0.mk hb; have n2_ := Aside0.mk (blk_grown HGa.out hg (fun e_ => ((Kd.S_R HOa.out).1 gr e_.symm) rfl)); clear HOa HBa HGa ho hb hg hat; have HOa := n0_; have HBa := n1_; have HGa := n2_; clear n0_ n1_ n2_))
              obtain ⟨O2, hO2⟩ : ∃ O, O = out ++ [[]] := ⟨_, rfl⟩
              rw [← hO2] at HOa
              have HO2 := Aside0.mk hO2
              have hpos : 0 < O2.length := by rw [hO2]; simp
              obtain ⟨go, cap, ev, _, _, _⟩ := Kd.S_form HOa.out hpos
              subst ev
              have HTL := Lib.hid (show t < O2.length by rw [hO2, HEQ.out]; simp)
              have HLBO := Aside0.mk (show LvB i O2 by rw [hO2]; exact HLB.out.snoc)
              have HO2L := Lib.hid (show O2.length ≤ out.length + 1 by rw [hO2]; simp)
              clear hpos hO2
              have htl : t < O2.length := HTL.out
              have hOb := Kd.S_mono (Kd.S_bound HOa.out) (fun k_ h_ => (⟨h_.1, Nat.not_le.2 h_.2.2.1⟩ : k_ ≠ gr ∧ ¬ (wA.heap.size ≤ k_)))
              obtain ⟨oki, c, hcl, hM, hcc, hfr, hoki, hH⟩ := Kd.S_elem hOb [] (t : Int) (by omega) (by omega)
              obtain ⟨vt, rfl, hRt⟩ := hM
              have hvt : wA.cell? ⟨go, t, none⟩ = some vt := by have h1 := hcc 0 vt rfl; rw [show ((t : Int)).toNat = t from rfl] at h1; simpa [Kd.slice] using h1
              have hfz : wA.frozen? ⟨go, t, none⟩ = false := by have h1 := hfr 0; rw [show ((t : Int)).toNat = t from rfl] at h1; simpa [Kd.slice] using h1
              have hgo : go < wA.heap.size := (Kd.S_lt HOa.out) go (by simp [Value.ownBlock])
              have hgr : gr < wA.heap.size := blk_lt HGa.out
              have hogr : ∀ k_, oki k_ → k_ ≠ gr := fun k_ h_ => (hoki k_ h_).1.1
              have hogo : ∀ k_, oki k_ → k_ ≠ go := fun k_ h_ => (hoki k_ h_).2
              obtain ⟨X, hX⟩ : ∃ X, X = O2.getD t [] := ⟨_, rfl⟩
              rw [show ((t : Int)).toNat = t from rfl, ← hX] at hRt
              have HRT := Aside0.mk (Kd.R_mono hRt (fun k_ h_ => (Or.inl h_ : oki k_ ∨ wA.heap.size ≤ k_)))
              have HRB := Aside0.mk hRt.1
              have HHH := Aside0.mk hH
              have HVT := Aside0.mk hvt
              have HFZ := Aside0.mk hfz
              have HGO := Lib.hid hgo
              have HGR := Lib.hid hgr
              have HGG2 := Aside0.mk hogr
              have HGG3 := Aside0.mk hogo
              have HX := Aside0.mk hX
              have p3 : 0 ≤ ((t : Nat) : Int) := by omega
              have q3 : ((t : Nat) : Int) < ((O2.length : Nat) : Int) := by omega
              replace p3 := eq_true p3
              replace q3 := eq_true q3
              clear hOb hcl hcc hfr hoki hH hvt hfz hgo hgr hogr hogo hX hRt htl HOa
              have HXL := Lib.hid (show X.length ≤ i by rw [HX.out]; exact LvB.getD HLBO.out t)
              refine start_ (n := 11) (S := fun w' => w'.cell? ⟨go, t, none⟩ = some vt ∧ w'.cell? ⟨gr, 0, none⟩ = some (.int .i64 y)) (ds := [10]) #[false, false, false, false, false, false, false, false, false, false, false] (by kernel_rfl) rfl rfl ⟨HVT.out, (blk_cell HGa.out 0).trans rfl⟩ (fun hHeld => ?_)
              refine pure_ (i := 0) (N := some 40) (v := ?_) (a' := ?_) #[true, false, false, false, false, false, false, false, false, false, false] rfl rfl (by kernel_rfl) (fun _ _ _ h => h) (Or.inl ⟨by rfl, ?_⟩) ?_ ?_
              rotate_left
              · intro w'
                go_simp
                with_reducible rfl
              rotate_left
              · simp only [Act.put, List.setIfInBounds_toArray, List.set_cons_zero, List.set_cons_succ, i64_w, i32_w]
                rfl
              refine pure_ (i := 1) (N := some 41) (v := ?_) (a' := ?_) #[true, true, false, false, false, false, false, false, false, false, false] rfl rfl (by kernel_rfl) (fun _ _ _ h => h) (Or.inl ⟨by rfl, ?_⟩) ?_ ?_
              rotate_left
              · intro w'
                go_simp
                with_reducible rfl
              rotate_left
              · simp only [Act.put, List.setIfInBounds_toArray, List.set_cons_zero, List.set_cons_succ, i64_w, i32_w]
                rfl
              refine pure_ (i := 2) (N := some 42) (v := ?_) (a' := ?_) #[true, true, true, false, false, false, false, false, false, false, false] rfl rfl (by kernel_rfl) (fun _ _ _ h => h) (Or.inl ⟨by rfl, ?_⟩) ?_ ?_
              rotate_left
              · intro w'
                go_simp
                with_reducible rfl
              rotate_left
              · simp only [Act.put, List.setIfInBounds_toArray, List.set_cons_zero, List.set_cons_succ, i64_w, i32_w]
                rfl
              refine pure_ (i := 3) (N := some 43) (v := ?_) (a' := ?_) #[true, true, true, true, false, false, false, false, false, false, false] rfl rfl (by kernel_rfl) (fun _ _ _ h => h) (Or.inl ⟨by rfl, ?_⟩) ?_ ?_
              rotate_left
              · intro w'
                go_simp
                with_reducible rfl
              rotate_left
              · simp only [Act.put, List.setIfInBounds_toArray, List.set_cons_zero, List.set_cons_succ, i64_w, i32_w]
                rfl
              refine pure_ (i := 4) (N := some 44) (v := ?_) (a' := ?_) #[true, true, true, true, true, false, false, false, false, false, false] rfl rfl (by kernel_rfl) (fun _ _ _ h => h) (Or.inl ⟨by rfl, ?_⟩) ?_ ?_
              rotate_left
              · intro w'
                go_simp
                with_reducible rfl
              rotate_left
              · simp only [Act.put, List.setIfInBounds_toArray, List.set_cons_zero, List.set_cons_succ, i64_w, i32_w]
                rfl
              refine take_ (i := 5) (N := some 45) (v := ?_) (a' := ?_) #[true, true, true, true, true, true, false, false, false, false, false] rfl rfl (by kernel_rfl) (fun _ _ _ h => h) (Or.inl ⟨by rfl, ?_⟩) hHeld ?_ ?_
              rotate_left
              · rintro w' ⟨s0, s1⟩
                go_simp
                with_reducible rfl
              rotate_left
              · simp only [Act.put, List.setIfInBounds_toArray, List.set_cons_zero, List.set_cons_succ, i64_w, i32_w]
                rfl
              refine take_ (i := 6) (N := some 46) (v := ?_) (a' := ?_) #[true, true, true, true, true, true, true, false, false, false, false] rfl rfl (by kernel_rfl) (fun _ _ _ h => h) (Or.inl ⟨by rfl, ?_⟩) hHeld ?_ ?_
              rotate_left
              · rintro w' ⟨s0, s1⟩
                go_simp
                with_reducible rfl
              rotate_left
              · simp only [Act.put, List.setIfInBounds_toArray, List.set_cons_zero, List.set_cons_succ, i64_w, i32_w]
                rfl
              have HBd := Aside0.mk (below_drew1 HBa.out)
              have HRTd := Aside0.mk (Kd.R_drew HRT.out)
              have HHd := Aside0.mk (Kd.H_drew HHH.out)
              have HGd := Aside0.mk (blk_drew HGa.out)
              have HVd := Aside0.mk (show wA.drew.cell? ⟨go, t, none⟩ = some vt from HVT.out)
              have HFd := Aside0.mk (show wA.drew.frozen? ⟨go, t, none⟩ = false from HFZ.out)
              have HSd := Aside0.mk (show wA.drew.heap.size = wA.heap.size from rfl)
              generalize wA.drew = wB at HBd HRTd HHd HGd HVd HFd HSd hHeld ⊢
              clear HRT HHH HGa HVT HFZ HBa
              refine one_ (i := 7) (N := some 47) #[true, true, true, true, true, true, true, true, false, false, false] rfl rfl (by kernel_rfl) (by decide) (fun K hK => ?_)
              refine event_step (by rfl) (v := .slice (some ⟨wB.heap.size, 0, none⟩) 1 1) (w1 := wB.alloc (.cells #[.int .i64 y] 3 (0, 0))) (by go_simp) ?_
              refine hK.out _ _ ⟨(Below.cell (below_alloc (Below.refl _ _) _) (p := ⟨go, t, none⟩) (by rw [HSd.out]; exact HGO.out)).trans HVd.out, (Below.cell (below_alloc (Below.refl _ _) _) (p := ⟨gr, 0, none⟩) (by rw [HSd.out]; exact HGR.out)).trans ((blk_cell HGd.out 0).trans rfl)⟩ (fun hHeld => ?_)
              clear hK K
              refine norm_ (a' := ?_) ?_ ?_
              rotate_left
              · show Act.put _ (some 47) _ = _
                simp only [Act.put, List.setIfInBounds_toArray, List.set_cons_zero, List.set_cons_succ, i64_w, i32_w]
                rfl
              refine one_ (i := 8) (N := some 48) #[true, true, true, true, true, true, true, true, true, false, false] rfl rfl (by kernel_rfl) (by decide) (fun K hK => ?_)
              refine Kd.R_append_step (Kd.int .i64) (w0 := w) w.heap.size (by rfl) (.tmp 45) (.tmp 47) 22 3 (.int .i64 0) 8 rfl Try.underlying22 info3 rfl (by decide) (by omega) vt X y [.int .i64 y] (fun k_ => oki k_ ∨ wA.heap.size ≤ k_) (fun _ => False) rfl rfl rfl (fun _ hk => hk.elim) (fun k_ hk => Or.inr (by rw [← HSd.out]; exact hk)) HRTd.out HBd.out HBd.out.size (by have := HXL.out; have := HIL.out; have := HN.out; omega) ?_
              intro v1_ w1 ho hb hg hat
              obtain ⟨Av, cv, ev⟩ := Kd.R_slice ho
              subst ev
              have hng : ∀ k_, vt.ownBlock = some k_ → k_ ≠ go ∧ k_ ≠ gr := fun k_ e_ => ⟨HGG3.out k_ (HRB.out k_ e_), HGG2.out k_ (HRB.out k_ e_)⟩
              have HR1 := Aside0.mk ho
              have HB1 := Aside0.mk hb
              have HH1 := Aside0.mk (Kd.H_grown HHd.out hg (fun k_ e_ => HRB.out k_ e_))
              have HG1 := Aside0.mk (blk_grown HGd.out hg (fun e_ => (hng gr e_.symm).2 rfl))
              have HV1 := Aside0.mk (show w1.cell? ⟨go, t, none⟩ = some vt by
                have h1 := hg.block go (by rw [HSd.out]; exact HGO.out) (fun e_ => (hng go e_.symm).1 rfl)
                exact (cellH h1).trans HVd.out)
              have HF1 := Aside0.mk (show w1.frozen? ⟨go, t, none⟩ = false by
                have h1 := hg.block go (by rw [HSd.out]; exact HGO.out) (fun e_ => (hng go e_.symm).1 rfl)
                exact (frozenH h1).trans HFd.out)
              clear HRTd HBd HHd HGd HVd HFd ho hb hg hat hng
              refine hK.out _ _ ⟨HV1.out, (blk_cell HG1.out 0).trans rfl⟩ (fun hHeld => ?_)
              clear hK K
              refine norm_ (a' := ?_) ?_ ?_
              rotate_left
              · show Act.put _ (some 48) _ = _
                simp only [Act.put, List.setIfInBounds_toArray, List.set_cons_zero, List.set_cons_succ, i64_w, i32_w]
                rfl
              refine pure_ (i := 9) (N := some 49) (v := ?_) (a' := ?_) #[true, true, true, true, true, true, true, true, true, true, false] rfl rfl (by kernel_rfl) (fun _ _ _ h => h) (Or.inl ⟨by rfl, ?_⟩) ?_ ?_
              rotate_left
              · intro w'
                go_simp
                with_reducible rfl
              rotate_left
              · simp only [Act.put, List.setIfInBounds_toArray, List.set_cons_zero, List.set_cons_succ, i64_w, i32_w]
                rfl
              have hcv := HV1.out
              have hcf := HF1.out
              refine last_ (i := 10) (N := none) #[true, true, true, true, true, true, true, true, true, true, true] rfl rfl (by kernel_rfl) (by decide) (fun K hK => ?_)
              refine skip_stepL (by rfl) rfl (w1 := w1.setCell ⟨go, t, none⟩ (.slice Av (X ++ [y]).length cv)) (by go_simp) ?_
              obtain ⟨hS2, hg2⟩ := Kd.S_seg (okg := fun k_ => wA.heap.size ≤ k_) (okp := fun k_ => oki k_ ∨ wA.heap.size ≤ k_) (ok := fun k_ => k_ ≠ gr) (seg := [(.slice Av (X ++ [y]).length cv)]) (j := 0) (x' := X ++ [y]) HH1.out (by omega) (by have := HTL.out; omega) (by simp [Kd.slice]) ⟨.slice Av (X ++ [y]).length cv, by simp [Kd.slice], HR1.out⟩ (fun k_ h_ => h_) (fun k_ h_ => ⟨by have := HGR.out; omega, by have := HGO.out; omega⟩)
              have HS2 := Aside0.mk (show Kd.S (Kd.slice 3 (Kd.int .i64)) 22 (w1.setCell ⟨go, t, none⟩ (.slice Av (X ++ [y]).length cv)) w.heap.size (fun k_ => k_ ≠ gr) (.slice (some ⟨go, 0, none⟩) O2.length cap) (O2.set t (X ++ [y])) by
                have h1 := hS2
                rw [show ((t : Int)).toNat = t from rfl] at h1
                simpa [Kd.slice, World.setCells] using h1)
              have HB2 := Aside0.mk (below_set (j := t) (v := .slice Av (X ++ [y]).length cv) HB1.out (Kd.S_base HS2.out go (by simp [Value.ownBlock])))
              clear hS2 hg2 hcv hcf HR1 HB1 HH1 HV1 HF1
              refine hK.out _ _ ?_
              clear hK K hHeld
              refine done_ (by kernel_rfl) ?_
              generalize w1.setCell ⟨go, t, none⟩ (.slice Av (X ++ [y]).length cv) = w8 at HS2 HB2 ⊢
              have hput : lvPut out y = O2.set t (X ++ [y]) := by
                have hat := HAT.out
                have hx := HX.out
                unfold lvPut
                rw [hat, if_pos HEQ.out, hx, HO2.out, HEQ.out, List.getD_eq_getElem?_getD, List.getElem?_append_right (Nat.le_refl _), List.set_append_right _ _ (Nat.le_refl _), Nat.sub_self]; rfl
              have HLO3 := Aside0.mk (show lvPuts (O2.set t (X ++ [y])) (l0_1.drop (i + 1)) = LO by rw [← hput]; exact HLO2.out)
              clear hput
              go_wp2
              go_roundg d
              case measure => have := HGG.out; omega
              case rel => exact ⟨d, i + 1, _, Nat.le_refl _, by have := HID.out; omega, by rw [← HWI.out], HLO3, ⟨by rw [List.length_set]; have := HL.out; have := HTL.out; first | omega | (have := HO2L.out; omega)⟩, ⟨LvB.set HLBO.out (by have := HXL.out; rw [List.length_append]; simp; omega)⟩, ⟨Kd.S_mono HS2.out (fun _ _ => trivial)⟩, HB2⟩
            · clear htl2
              have HEQ := Lib.hid hE
              have e1 : (t == out.length) = false := by simp [hE]
              have e2 : ((t : Int) == (out.length : Int)) = false := by
                have : ¬ (t : Int) = (out.length : Int) := by omega
                simp [this]
              have HTL := Lib.hid (show t < out.length by omega)
              have HLBO := HLB
              clear hE
              go_wp2_with (first | (go_at_call 85; refine (HCON.out).mono ?_; rintro e w' ⟨rfl, ⟨q2, rfl⟩⟩; have n0_ := Aside0.mk (Kd.S_drewN HOa.out q2); have n1_ := Aside0.mk (pw_below_drewN HBa.out q2); have n2_ := Aside0.mk (blk_drewN HGa.out q2); clear HOa HBa HGa; have HOa := n0_; have HBa := n1_; have HGa := n2_; clear n0_ n1_ n2_))
              obtain ⟨go, rfl⟩ : ∃ x, x = go0 := ⟨_, rfl⟩
              obtain ⟨cap, rfl⟩ : ∃ x, x = cap0 := ⟨_, rfl⟩
              generalize (wz.drewN q2) = wA at HOa HBa HGa ⊢
              have htl : t < out.length := HTL.out
              have hOb := Kd.S_mono (Kd.S_bound HOa.out) (fun k_ h_ => (⟨h_.1, Nat.not_le.2 h_.2.2.1⟩ : k_ ≠ gr ∧ ¬ (wA.heap.size ≤ k_)))
              obtain ⟨oki, c, hcl, hM, hcc, hfr, hoki, hH⟩ := Kd.S_elem hOb [] (t : Int) (by omega) (by omega)
              obtain ⟨vt, rfl, hRt⟩ := hM
              have hvt : wA.cell? ⟨go, t, none⟩ = some vt := by have h1 := hcc 0 vt rfl; rw [show ((t : Int)).toNat = t from rfl] at h1; simpa [Kd.slice] using h1
              have hfz : wA.frozen? ⟨go, t, none⟩ = false := by have h1 := hfr 0; rw [show ((t : Int)).toNat = t from rfl] at h1; simpa [Kd.slice] using h1
              have hgo : go < wA.heap.size := (Kd.S_lt HOa.out) go (by simp [Value.ownBlock])
              have hgr : gr < wA.heap.size := blk_lt HGa.out
              have hogr : ∀ k_, oki k_ → k_ ≠ gr := fun k_ h_ => (hoki k_ h_).1.1
              have hogo : ∀ k_, oki k_ → k_ ≠ go := fun k_ h_ => (hoki k_ h_).2
              obtain ⟨X, hX⟩ : ∃ X, X = out.getD t [] := ⟨_, rfl⟩
              rw [show ((t : Int)).toNat = t from rfl, ← hX] at hRt
              have HRT := Aside0.mk (Kd.R_mono hRt (fun k_ h_ => (Or.inl h_ : oki k_ ∨ wA.heap.size ≤ k_)))
              have HRB := Aside0.mk hRt.1
              have HHH := Aside0.mk hH
              have HVT := Aside0.mk hvt
              have HFZ := Aside0.mk hfz
              have HGO := Lib.hid hgo
              have HGR := Lib.hid hgr
              have HGG2 := Aside0.mk hogr
              have HGG3 := Aside0.mk hogo
              have HX := Aside0.mk hX
              have p3 : 0 ≤ ((t : Nat) : Int) := by omega
              have q3 : ((t : Nat) : Int) < ((out.length : Nat) : Int) := by omega
              replace p3 := eq_true p3
              replace q3 := eq_true q3
              clear hOb hcl hcc hfr hoki hH hvt hfz hgo hgr hogr hogo hX hRt htl HOa
              have HXL := Lib.hid (show X.length ≤ i by rw [HX.out]; exact LvB.getD HLBO.out t)
              refine start_ (n := 11) (S := fun w' => w'.cell? ⟨go, t, none⟩ = some vt ∧ w'.cell? ⟨gr, 0, none⟩ = some (.int .i64 y)) (ds := [10]) #[false, false, false, false, false, false, false, false, false, false, false] (by kernel_rfl) rfl rfl ⟨HVT.out, (blk_cell HGa.out 0).trans rfl⟩ (fun hHeld => ?_)
              refine pure_ (i := 0) (N := some 40) (v := ?_) (a' := ?_) #[true, false, false, false, false, false, false, false, false, false, false] rfl rfl (by kernel_rfl) (fun _ _ _ h => h) (Or.inl ⟨by rfl, ?_⟩) ?_ ?_
              rotate_left
              · intro w'
                go_simp
                with_reducible rfl
              rotate_left
              · simp only [Act.put, List.setIfInBounds_toArray, List.set_cons_zero, List.set_cons_succ, i64_w, i32_w]
                rfl
              refine pure_ (i := 1) (N := some 41) (v := ?_) (a' := ?_) #[true, true, false, false, false, false, false, false, false, false, false] rfl rfl (by kernel_rfl) (fun _ _ _ h => h) (Or.inl ⟨by rfl, ?_⟩) ?_ ?_
              rotate_left
              · intro w'
                go_simp
                with_reducible rfl
              rotate_left
              · simp only [Act.put, List.setIfInBounds_toArray, List.set_cons_zero, List.set_cons_succ, i64_w, i32_w]
                rfl
              refine pure_ (i := 2) (N := some 42) (v := ?_) (a' := ?_) #[true, true, true, false, false, false, false, false, false, false, false] rfl rfl (by kernel_rfl) (fun _ _ _ h => h) (Or.inl ⟨by rfl, ?_⟩) ?_ ?_
              rotate_left
              · intro w'
                go_simp
                with_reducible rfl
              rotate_left
              · simp only [Act.put, List.setIfInBounds_toArray, List.set_cons_zero, List.set_cons_succ, i64_w, i32_w]
                rfl
              refine pure_ (i := 3) (N := some 43) (v := ?_) (a' := ?_) #[true, true, true, true, false, false, false, false, false, false, false] rfl rfl (by kernel_rfl) (fun _ _ _ h => h) (Or.inl ⟨by rfl, ?_⟩) ?_ ?_
              rotate_left
              · intro w'
                go_simp
                with_reducible rfl
              rotate_left
              · simp only [Act.put, List.setIfInBounds_toArray, List.set_cons_zero, List.set_cons_succ, i64_w, i32_w]
                rfl
              refine pure_ (i := 4) (N := some 44) (v := ?_) (a' := ?_) #[true, true, true, true, true, false, false, false, false, false, false] rfl rfl (by kernel_rfl) (fun _ _ _ h => h) (Or.inl ⟨by rfl, ?_⟩) ?_ ?_
              rotate_left
              · intro w'
                go_simp
                with_reducible rfl
              rotate_left
              · simp only [Act.put, List.setIfInBounds_toArray, List.set_cons_zero, List.set_cons_succ, i64_w, i32_w]
                rfl
              refine take_ (i := 5) (N := some 45) (v := ?_) (a' := ?_) #[true, true, true, true, true, true, false, false, false, false, false] rfl rfl (by kernel_rfl) (fun _ _ _ h => h) (Or.inl ⟨by rfl, ?_⟩) hHeld ?_ ?_
              rotate_left
              · rintro w' ⟨s0, s1⟩
                go_simp
                with_reducible rfl
              rotate_left
              · simp only [Act.put, List.setIfInBounds_toArray, List.set_cons_zero, List.set_cons_succ, i64_w, i32_w]
                rfl
              refine take_ (i := 6) (N := some 46) (v := ?_) (a' := ?_) #[true, true, true, true, true, true, true, false, false, false, false] rfl rfl (by kernel_rfl) (fun _ _ _ h => h) (Or.inl ⟨by rfl, ?_⟩) hHeld ?_ ?_
              rotate_left
              · rintro w' ⟨s0, s1⟩
                go_simp
                with_reducible rfl
              rotate_left
              · simp only [Act.put, List.setIfInBounds_toArray, List.set_cons_zero, List.set_cons_succ, i64_w, i32_w]
                rfl
              have HBd := Aside0.mk (below_drew1 HBa.out)
              have HRTd := Aside0.mk (Kd.R_drew HRT.out)
              have HHd := Aside0.mk (Kd.H_drew HHH.out)
              have HGd := Aside0.mk (blk_drew HGa.out)
              have HVd := Aside0.mk (show wA.drew.cell? ⟨go, t, none⟩ = some vt from HVT.out)
              have HFd := Aside0.mk (show wA.drew.frozen? ⟨go, t, none⟩ = false from HFZ.out)
              have HSd := Aside0.mk (show wA.drew.heap.size = wA.heap.size from rfl)
              generalize wA.drew = wB at HBd HRTd HHd HGd HVd HFd HSd hHeld ⊢
              clear HRT HHH HGa HVT HFZ HBa
              refine one_ (i := 7) (N := some 47) #[true, true, true, true, true, true, true, true, false, false, false] rfl rfl (by kernel_rfl) (by decide) (fun K hK => ?_)
              refine event_step (by rfl) (v := .slice (some ⟨wB.heap.size, 0, none⟩) 1 1) (w1 := wB.alloc (.cells #[.int .i64 y] 3 (0, 0))) (by go_simp) ?_
              refine hK.out _ _ ⟨(Below.cell (below_alloc (Below.refl _ _) _) (p := ⟨go, t, none⟩) (by rw [HSd.out]; exact HGO.out)).trans HVd.out, (Below.cell (below_alloc (Below.refl _ _) _) (p := ⟨gr, 0, none⟩) (by rw [HSd.out]; exact HGR.out)).trans ((blk_cell HGd.out 0).trans rfl)⟩ (fun hHeld => ?_)
              clear hK K
              refine norm_ (a' := ?_) ?_ ?_
              rotate_left
              · show Act.put _ (some 47) _ = _
                simp only [Act.put, List.setIfInBounds_toArray, List.set_cons_zero, List.set_cons_succ, i64_w, i32_w]
                rfl
              refine one_ (i := 8) (N := some 48) #[true, true, true, true, true, true, true, true, true, false, false] rfl rfl (by kernel_rfl) (by decide) (fun K hK => ?_)
              refine Kd.R_append_step (Kd.int .i64) (w0 := w) w.heap.size (by rfl) (.tmp 45) (.tmp 47) 22 3 (.int .i64 0) 8 rfl Try.underlying22 info3 rfl (by decide) (by omega) vt X y [.int .i64 y] (fun k_ => oki k_ ∨ wA.heap.size ≤ k_) (fun _ => False) rfl rfl rfl (fun _ hk => hk.elim) (fun k_ hk => Or.inr (by rw [← HSd.out]; exact hk)) HRTd.out HBd.out HBd.out.size (by have := HXL.out; have := HIL.out; have := HN.out; omega) ?_
              intro v1_ w1 ho hb hg hat
              obtain ⟨Av, cv, ev⟩ := Kd.R_slice ho
              subst ev
              have hng : ∀ k_, vt.ownBlock = some k_ → k_ ≠ go ∧ k_ ≠ gr := fun k_ e_ => ⟨HGG3.out k_ (HRB.out k_ e_), HGG2.out k_ (HRB.out k_ e_)⟩
              have HR1 := Aside0.mk ho
              have HB1 := Aside0.mk hb
              have HH1 := Aside0.mk (Kd.H_grown HHd.out hg (fun k_ e_ => HRB.out k_ e_))
              have HG1 := Aside0.mk (blk_grown HGd.out hg (fun e_ => (hng gr e_.symm).2 rfl))
              have HV1 := Aside0.mk (show w1.cell? ⟨go, t, none⟩ = some vt by
                have h1 := hg.block go (by rw [HSd.out]; exact HGO.out) (fun e_ => (hng go e_.symm).1 rfl)
                exact (cellH h1).trans HVd.out)
              have HF1 := Aside0.mk (show w1.frozen? ⟨go, t, none⟩ = false by
                have h1 := hg.block go (by rw [HSd.out]; exact HGO.out) (fun e_ => (hng go e_.symm).1 rfl)
                exact (frozenH h1).trans HFd.out)
              clear HRTd HBd HHd HGd HVd HFd ho hb hg hat hng
              refine hK.out _ _ ⟨HV1.out, (blk_cell HG1.out 0).trans rfl⟩ (fun hHeld => ?_)
              clear hK K
              refine norm_ (a' := ?_) ?_ ?_
              rotate_left
              · show Act.put _ (some 48) _ = _
                simp only [Act.put, List.setIfInBounds_toArray, List.set_cons_zero, List.set_cons_succ, i64_w, i32_w]
                rfl
              refine pure_ (i := 9) (N := some 49) (v := ?_) (a' := ?_) #[true, true, true, true, true, true, true, true, true, true, false] rfl rfl (by kernel_rfl) (fun _ _ _ h => h) (Or.inl ⟨by rfl, ?_⟩) ?_ ?_
              rotate_left
              · intro w'
                go_simp
                with_reducible rfl
              rotate_left
              · simp only [Act.put, List.setIfInBounds_toArray, List.set_cons_zero, List.set_cons_succ, i64_w, i32_w]
                rfl
              have hcv := HV1.out
              have hcf := HF1.out
              refine last_ (i := 10) (N := none) #[true, true, true, true, true, true, true, true, true, true, true] rfl rfl (by kernel_rfl) (by decide) (fun K hK => ?_)
              refine skip_stepL (by rfl) rfl (w1 := w1.setCell ⟨go, t, none⟩ (.slice Av (X ++ [y]).length cv)) (by go_simp) ?_
              obtain ⟨hS2, hg2⟩ := Kd.S_seg (okg := fun k_ => wA.heap.size ≤ k_) (okp := fun k_ => oki k_ ∨ wA.heap.size ≤ k_) (ok := fun k_ => k_ ≠ gr) (seg := [(.slice Av (X ++ [y]).length cv)]) (j := 0) (x' := X ++ [y]) HH1.out (by omega) (by have := HTL.out; omega) (by simp [Kd.slice]) ⟨.slice Av (X ++ [y]).length cv, by simp [Kd.slice], HR1.out⟩ (fun k_ h_ => h_) (fun k_ h_ => ⟨by have := HGR.out; omega, by have := HGO.out; omega⟩)
              have HS2 := Aside0.mk (show Kd.S (Kd.slice 3 (Kd.int .i64)) 22 (w1.setCell ⟨go, t, none⟩ (.slice Av (X ++ [y]).length cv)) w.heap.size (fun k_ => k_ ≠ gr) (.slice (some ⟨go, 0, none⟩) out.length cap) (out.set t (X ++ [y])) by
                have h1 := hS2
                rw [show ((t : Int)).toNat = t from rfl] at h1
                simpa [Kd.slice, World.setCells] using h1)
              have HB2 := Aside0.mk (below_set (j := t) (v := .slice Av (X ++ [y]).length cv) HB1.out (Kd.S_base HS2.out go (by simp [Value.ownBlock])))
              clear hS2 hg2 hcv hcf HR1 HB1 HH1 HV1 HF1
              refine hK.out _ _ ?_
              clear hK K hHeld
              refine done_ (by kernel_rfl) ?_
              generalize w1.setCell ⟨go, t, none⟩ (.slice Av (X ++ [y]).length cv) = w8 at HS2 HB2 ⊢
              have hput : lvPut out y = out.set t (X ++ [y]) := by
                have hat := HAT.out
                have hx := HX.out
                unfold lvPut
                rw [hat, if_neg HEQ.out, hx]
              have HLO3 := Aside0.mk (show lvPuts (out.set t (X ++ [y])) (l0_1.drop (i + 1)) = LO by rw [← hput]; exact HLO2.out)
              clear hput
              go_wp2
              go_roundg d
              case measure => have := HGG.out; omega
              case rel => exact ⟨d, i + 1, _, Nat.le_refl _, by have := HID.out; omega, by rw [← HWI.out], HLO3, ⟨by rw [List.length_set]; have := HL.out; have := HTL.out; first | omega | (have := HO2L.out; omega)⟩, ⟨LvB.set HLBO.out (by have := HXL.out; rw [List.length_append]; simp; omega)⟩, ⟨Kd.S_mono HS2.out (fun _ _ => trivial)⟩, HB2⟩
          | false =>
            rw [hany] at HCON
            have HAA2 := Aside0.mk (show lvAt out y t1 = lvAt out y out.length by rw [← HAA.out, HT1.out, lvAt, if_neg (by rw [← HXJ.out, hany]; simp)])
            have HTG := Lib.hid hgt
            have HTE := Lib.hid htl
            clear hany HAA hgt htl
            go_wp2_with (first | (go_at_call 85; refine (HCON.out).mono ?_; rintro e w' ⟨rfl, ⟨q2, rfl⟩⟩))
            go_roundg t1
            case measure => have := HTG.out; have := HT1.out; omega
            case rel => exact ⟨t1, q + q2, by have := HTE.out; have := HT1.out; omega, Nat.le_refl _, by rw [ew], rfl, HAA2⟩


end Go.Proofs.Ytkbojnmepapkhaa.B
