/- The walks of functions of the given program and of its reference: each call of the machine returns what the plain Lean function of the same name says. Conditions: those in each statement. (Written by this session's program over the kit's print.) -/
import Derived.Test.YtpgbfkgmmkchnaaGreatB0
import Derived.Test.YtpgbfkgmmkchnaaGreatB1
import Derived.Test.YtpgbfkgmmkchnaaGreatB2
import Derived.Test.YtpgbfkgmmkchnaaGreatB3
namespace Go.Proofs.YtpgbfkgmmkchnaaGreat.B
open Go.RowKit Go.Proofs.YtpgbfkgmmkchnaaGreatW.PrintWords Go.Proofs.YtpgbfkgmmkchnaaGreatW.PrintLast Go.Proofs.YtpgbfkgmmkchnaaGreatW.PrintMore
attribute [local go_sem] max2_int min2_int max_two min_two max_three min_three max_four min_four   -- for this text's walks alone
set_option linter.unusedVariables false
set_option linter.unusedSimpArgs false

/-! ### impl_levelsOf: function 72 -/
def apartV (a b : Int) : Bool := decide (2 ≤ wrap64 (a - b)) || decide (2 ≤ wrap64 (b - a))
theorem apart_calls (a b : Int) (w : World) : Calls Tryz.prog 82 #[.int .i64 a, .int .i64 b] w fun e w' => e = .returned (.bool (apartV a b)) ∧ Drawn0 w w' := by
  unfold apartV
  cases h1 : decide (2 ≤ wrap64 (a - b)) with
  | true =>
    go_enter Tryz.func82, Tryz.ntmps82
    go_wp2
    go_ret
    exact ⟨rfl, Drawn0.refl _⟩
  | false =>
    go_enter Tryz.func82, Tryz.ntmps82
    go_wp2
    go_ret
    exact ⟨rfl, Drawn0.refl _⟩
theorem levelsOf1_calls (x y : Int) (B : Nat) (W : World) (hcell : W.cell? ⟨B, 0, none⟩ = some (.int .i64 y)) :
    Calls Tryz.prog 81 #[.int .i64 x, .pointer (some ⟨B, 0, none⟩)] W fun e w' => e = .returned (.bool (!(apartV x y))) ∧ Drawn0 W w' := by
  go_enter Tryz.func81, Tryz.ntmps81
  go_wp2_with (go_at_call 82; refine (apart_calls _ _ _).mono ?_; rintro e w' ⟨rfl, ⟨q, rfl⟩⟩)
  go_ret
  exact ⟨rfl, ⟨q, rfl⟩⟩
/-- how far up a rung slides -/
def lvAt (out : List (List Int)) (y : Int) : Nat → Nat
  | 0 => 0
  | t + 1 => if (out.getD t []).any (fun o => !(apartV o y)) = true then t + 1 else lvAt out y t
theorem lvAt_le (out : List (List Int)) (y : Int) : ∀ t, lvAt out y t ≤ t
  | 0 => Nat.le_refl _
  | t + 1 => by
    rw [lvAt]
    split
    · exact Nat.le_refl _
    · exact Nat.le_succ_of_le (lvAt_le out y t)
def lvPut (out : List (List Int)) (y : Int) : List (List Int) := if lvAt out y out.length = out.length then out ++ [[y]] else out.set (lvAt out y out.length) (out.getD (lvAt out y out.length) [] ++ [y])
def lvPuts (out : List (List Int)) (l : List Int) : List (List Int) := l.foldl lvPut out
def sortAll (k : Nat) : List (List Int) → Option (List (List Int))
  | [] => some []
  | x :: xs => (slices_Sort_int_int.f k x).bind fun y => (sortAll k xs).bind fun ys => some (y :: ys)
def LvB (i : Nat) (out : List (List Int)) : Prop := ∀ x, x ∈ out → x.length ≤ i
theorem LvB.getD {i : Nat} {out : List (List Int)} (h : LvB i out) (t : Nat) : (out.getD t []).length ≤ i := by
  rw [List.getD_eq_getElem?_getD]
  cases hx : out[t]? with
  | none => exact Nat.zero_le _
  | some x => exact h x (List.mem_of_getElem? hx)
theorem LvB.snoc {i : Nat} {out : List (List Int)} (h : LvB i out) : LvB i (out ++ [[]]) := by
  intro x hx
  rcases List.mem_append.1 hx with hx | hx
  · exact h x hx
  · rw [List.mem_singleton.1 hx]; exact Nat.zero_le _
theorem LvB.set {i : Nat} {out : List (List Int)} (h : LvB i out) {t : Nat} {z : List Int} (hz : z.length ≤ i + 1) : LvB (i + 1) (out.set t z) := by
  intro x hx
  rcases List.mem_or_eq_of_mem_set hx with hx | hx
  · exact Nat.le_succ_of_le (h x hx)
  · rw [hx]; exact hz
theorem lv1_enters : ∀ args w, (callFunc 81 args).run Tryz.prog w = .ok (.enter 81 args) w := enters_of Tryz.func81 (by kernel_rfl) rfl
theorem lvInfo : (Tryz.prog.info? 31).map (fun i => (i.zero, i.size, i.bytes)) = some (some (.slice none 0 0), 1, 24) := by kernel_rfl
theorem cellH {w w1 : World} {g i : Nat} (h : w1.heap[g]? = w.heap[g]?) : w1.cell? ⟨g, i, none⟩ = w.cell? ⟨g, i, none⟩ := by simp [World.cell?, h]
theorem frozenH {w w1 : World} {g i : Nat} (h : w1.heap[g]? = w.heap[g]?) : w1.frozen? ⟨g, i, none⟩ = w.frozen? ⟨g, i, none⟩ := by simp [World.frozen?, h]
theorem skip_stepL {P : Program} {ops : Array Oper} {o : Oper} {a : Act} {Q : Exit → Act → World → Prop} {Kc : Act → World → Prop} {W w1 : World} (hw : Region.wanted o (yielded ops a.tmps) = true) (hN : o.dst = none) (hrun : (execOp a.eval o).run P W = .ok .skip w1) (h : Kc a w1) : if Region.wanted o (yielded ops a.tmps) = true then Oper.wp P o a W Kc Q else Kc (a.put o.dst undef) W := by
  rw [if_pos hw]
  unfold Oper.wp
  rw [hrun]
  show Kc (a.put o.dst undef) w1
  rw [hN]
  exact h
theorem sortAll_mono (k : Nat) : ∀ xs, LeO (sortAll k xs) (sortAll (k + 1) xs)
  | [] => LeO.refl _
  | x :: xs => LeO.bind (slices_Sort_int_int.mono _ _) fun _ => LeO.bind (sortAll_mono k xs) fun _ => LeO.refl _
def impl_levelsOf.f (k : Nat) (a : Int) (l0 : List Int) : Option (List (List Int)) := if l0.length ≤ 1000 then sortAll k (lvPuts [] l0) else none
theorem impl_levelsOf.mono : ∀ a0 a1 k, LeO (impl_levelsOf.f k a0 a1) (impl_levelsOf.f (k + 1) a0 a1) := fun _ _ k => LeO.ite (sortAll_mono k _) (LeO.refl _)
set_option maxHeartbeats 4000000 in
set_option maxRecDepth 100000 in
theorem impl_levelsOf.calls (k : Nat) (a0_0 : Int) (A0_1 : Option Addr) (c0_1 : Nat) (l0_1 : List Int) (r : List (List Int)) (w : World) (hr0_1 : Kd.C (Kd.int .i64) w A0_1 l0_1.length l0_1) (hc0_1 : l0_1.length ≤ c0_1) (h : impl_levelsOf.f k a0_0 l0_1 = some r) :
    Calls Tryz.prog 72 #[.agg #[.int .i64 a0_0, .slice A0_1 l0_1.length c0_1]] w fun e w' => ∃ v0_ : Value, e = .returned v0_ ∧ Kd.S (Kd.slice 3 (Kd.int .i64)) 31 w' w.heap.size (fun _ => True) v0_ r ∧ Below w.heap.size w w' := by
  -- ONLY 83 61
  have hu28 := Tryz.underlying38
  unfold impl_levelsOf.f at h
  by_cases hn : l0_1.length ≤ 1000
  case neg => rw [if_neg hn] at h; cases h
  rw [if_pos hn] at h
  obtain ⟨LO, hLO⟩ : ∃ LO, LO = lvPuts [] l0_1 := ⟨_, rfl⟩
  rw [← hLO] at h
  have HR := Aside0.mk hr0_1
  have HC := Aside0.mk hc0_1
  have HN := Lib.hid hn
  have HB := Aside0.mk (Below.refl w.heap.size w)
  have HSA := Aside0.mk h
  have HLO := Aside0.mk hLO
  clear hr0_1 hc0_1 h hn hLO
  go_enter Tryz.func72, Tryz.ntmps72
  go_wp2_with (first | ((with_reducible refine gate_dst (N := 1) rfl ?_); refine box_event ?hg (N := 1) ?hd (cs := #[.int .i64 a0_0, .slice A0_1 l0_1.length c0_1]) (t := 38) ?hr ?_; (case hd => rfl); (case hg => rfl); (case hr => first | (go_simp; done) | (go_simp; rfl)); intro gb hg w1 hbox hb; have n0_ := Aside0.mk (below_step HB.out hb); clear HB; have HB := n0_; clear n0_; have BKL := Aside0.mk hbox; clear hbox hb hg) | ((with_reducible refine gate_dst (N := 9) rfl ?_); refine Kd.S_lit (Kd.slice 3 (Kd.int .i64)) _ 31 ?hg (N := 9) ?hd (xs := ([] : List (List Int))) (inner := []) (ok := fun _ => True) (okp := fun _ => True) ?hr ?hp (fun _ hk => hk) trivial (Below.refl _ _) (Nat.le_refl _) (by simp) ?_; (case hd => rfl); (case hg => rfl); (case hr => first | (go_simp; done) | (go_simp; rfl)); (case hp => exact (Reps.none _ _)); intro v9 w2 ho hb hg_ hnew_; clear hg_ hnew_; have HO := Aside0.mk (Kd.S_lower ho (below_size HB.out)); have n0_ := Aside0.mk (below_step HB.out hb); have hcx1 : w2.cell? ⟨gb, 1, none⟩ = some (.slice A0_1 l0_1.length c0_1) := (blk_cell (blk_below BKL.out hb) 1).trans rfl; clear HB BKL hb ho; have HB := n0_; clear n0_))
  clear hcx1
  go_loopg [3, 13] l0_1.length (fun gg v3 v13 wr => ∃ (d i : Nat) (out : List (List Int)), d ≤ gg ∧ i + d = l0_1.length ∧ v13 = .int .i64 (i : Int) ∧ Aside0 (lvPuts out (l0_1.drop i) = LO) ∧ Aside0 (out.length ≤ i) ∧ Aside0 (LvB i out) ∧ Aside0 (Kd.S (Kd.slice 3 (Kd.int .i64)) 31 wr w.heap.size (fun _ => True) v3 out) ∧ Aside0 (Below w.heap.size w wr))
  case atStart => exact ⟨l0_1.length, 0, [], Nat.le_refl _, Nat.zero_add _, rfl, ⟨HLO.out.symm⟩, ⟨Nat.le_refl _⟩, ⟨fun x hx => by cases hx⟩, HO, HB⟩
  case round =>
    clear HO HB HLO
    obtain ⟨d, i, out, hgg, hid, rfl, HLO, HL, HLB, HO, HB⟩ := hrel
    cases d with
    | zero =>
      have d1 : decide (i < l0_1.length) = false := decide_eq_false (by omega)
      have hlo := HLO.out
      rw [List.drop_eq_nil_of_le (by omega), lvPuts, List.foldl_nil] at hlo
      subst hlo
      obtain ⟨Ao, co, eo⟩ := Kd.S_slice HO.out
      subst eo
      have HOL := Lib.hid (show out.length ≤ 1000 by have := HL.out; have := HN.out; omega)
      clear hgg hid HLO HL HLB
      go_wp2
      go_loopg [53] out.length (fun gg v53 wi => ∃ (d2 j : Nat) (dn rest : List (List Int)), d2 ≤ gg ∧ j + d2 = out.length ∧ v53 = .int .i64 (j : Int) ∧ Aside0 (dn.length = j) ∧ Aside0 (sortAll k (out.drop j) = some rest) ∧ Aside0 (dn ++ rest = r) ∧ Aside0 (Kd.S (Kd.slice 3 (Kd.int .i64)) 31 wi w.heap.size (fun _ => True) (.slice Ao out.length co) (dn ++ out.drop j)) ∧ Aside0 (Below w.heap.size w wi))
      case atStart => exact ⟨out.length, 0, [], r, Nat.le_refl _, Nat.zero_add _, rfl, ⟨rfl⟩, ⟨HSA.out⟩, ⟨rfl⟩, ⟨HO.out⟩, ⟨HB.out⟩⟩
      case round =>
        clear HO HB HSA
        obtain ⟨d2, j, dn, rest, hgg, hjd, rfl, HDL, HSA, HDR, HO, HB⟩ := hrel
        cases d2 with
        | zero =>
          have d3 : decide (j < out.length) = false := decide_eq_false (by omega)
          have hsa := HSA.out
          rw [List.drop_eq_nil_of_le (by omega), sortAll] at hsa
          injection hsa with hsa
          subst hsa
          have ho := HO.out
          have hdr := HDR.out
          rw [List.append_nil] at hdr
          rw [List.drop_eq_nil_of_le (by omega), List.append_nil, hdr] at ho
          have HO2 := Aside0.mk ho
          clear ho hdr HDR HO hgg hjd
          go_wp2
          go_ret
          exact ⟨_, rfl, HO2.out, HB.out⟩
        | succ d2 =>
          have hlt : j < out.length := by omega
          have d3 : decide (j < out.length) = true := decide_eq_true hlt
          have hsa := HSA.out
          rw [List.drop_eq_getElem_cons hlt, sortAll] at hsa
          replace hsa := Option.bind_eq_some_iff.mp hsa
          obtain ⟨Y, hY, hsa⟩ := hsa
          replace hsa := Option.bind_eq_some_iff.mp hsa
          obtain ⟨ys, hys, hsa⟩ := hsa
          injection hsa with hsa
          have ho := HO.out
          rw [List.drop_eq_getElem_cons hlt] at ho
          obtain ⟨X, hX⟩ : ∃ X, X = out[j] := ⟨_, rfl⟩
          rw [← hX] at hY ho
          have hgd : (dn ++ X :: out.drop (j + 1)).getD j [] = X := by
            rw [List.getD_eq_getElem?_getD, List.getElem?_append_right (by rw [HDL.out]; exact Nat.le_refl _), HDL.out, Nat.sub_self]; rfl
          have hst : (dn ++ X :: out.drop (j + 1)).set j Y = (dn ++ [Y]) ++ out.drop (j + 1) := by
            rw [List.set_append_right _ _ (by rw [HDL.out]; exact Nat.le_refl _), HDL.out, Nat.sub_self, List.append_assoc]; rfl
          obtain ⟨go, cap, ev, _, _, _⟩ := Kd.S_form ho (by rw [List.length_append, List.length_cons]; omega)
          injection ev with ev1 ev2 ev3
          subst ev1
          obtain rfl : cap = co := ev3.symm
          clear ev2
          obtain ⟨oki, c, hcl, hM, hcc, hfr, hoki, hH⟩ := Kd.S_elem ho [] (j : Int) (by omega) (by omega)
          obtain ⟨vj, rfl, hRj⟩ := hM
          have hvj := hcc 0 vj rfl
          rw [show ((j : Int)).toNat = j from rfl] at hvj hRj
          rw [hgd] at hRj
          have hvj2 : wr.cell? ⟨go, j, none⟩ = some vj := by simpa [Kd.slice] using hvj
          have HRJ := Aside0.mk hRj
          have HHH := Aside0.mk hH
          have HSY := Aside0.mk hY
          have HYS := Aside0.mk hys
          have HST := Aside0.mk hst
          have HRE := Aside0.mk (show (dn ++ [Y]) ++ ys = r by rw [← HDR.out, ← hsa, List.append_assoc]; rfl)
          have HJ := Lib.hid hlt
          have HGJ := Lib.hid hgg
          have HJD := Lib.hid hjd
          have HWJ := Lib.hid (show wrap64 ((j : Int) + 1) = ((j + 1 : Nat) : Int) by have := HOL.out; unfold wrap64; omega)
          have p5 : 0 ≤ ((j : Nat) : Int) := by omega
          have q5 : ((j : Nat) : Int) < ((out.length : Nat) : Int) := by omega
          replace p5 := eq_true p5
          replace q5 := eq_true q5
          clear hsa ho hX hgd hst hcl hcc hfr hoki hH hvj hRj hY hys hgg hjd hlt HO HSA HDR
          go_wp2_with (first | ((with_reducible refine (slices_Sort_int_int.calls k oki vj X Y w _ HB.out HRJ.out HSY.out).mono ?_); rintro e w5 ⟨rfl, ho, hb, hk⟩; have n0_ := Aside0.mk (Kd.H_back (Kd.H_step HHH.out (fun k_ _ hn hl => hk.2 k_ hl hn)) ⟨vj, rfl, Kd.R_tight rfl ho⟩ (fun k_ hk_ => HRJ.out.1 k_ hk_.symm)); have n1_ := Aside0.mk hb; clear HB HHH ho hb hk; have HS5 := n0_; have HB := n1_; clear n0_ n1_))
          go_roundg d2
          case measure => have := HGJ.out; omega
          case rel => exact ⟨d2, j + 1, dn ++ [Y], ys, Nat.le_refl _, by have := HJD.out; omega, by rw [← HWJ.out], ⟨by rw [List.length_append, HDL.out]; rfl⟩, HYS, HRE, ⟨by have h1 := HS5.out; rw [show ((j : Int)).toNat = j from rfl, HST.out] at h1; exact h1⟩, HB⟩
    | succ d =>
      have d1 : decide (i < l0_1.length) = true := decide_eq_true (by omega)
      have hlt : i < l0_1.length := by omega
      have p1 : 0 ≤ ((i : Nat) : Int) := by omega
      have q1 : ((i : Nat) : Int) < (l0_1.length : Int) := by omega
      obtain ⟨ad1, e1, hx1_0⟩ := Kd.at_int HR.out (i : Int) p1 q1
      cases e1
      obtain ⟨y, hy⟩ : ∃ y, l0_1[i] = y := ⟨_, rfl⟩
      have hrd : rd l0_1 (i : Int) = y := by rw [← hy]; unfold rd; simp [hlt]
      rw [hrd, show ((i : Int)).toNat = i from rfl] at hx1_0
      replace hx1_0 := (HB.out.cell (World.block_lt_of_cell? w _ hx1_0)).trans hx1_0
      have hlo := HLO.out
      rw [List.drop_eq_getElem_cons hlt, hy, lvPuts, List.foldl_cons] at hlo
      have HLO2 := Aside0.mk (show lvPuts (lvPut out y) (l0_1.drop (i + 1)) = LO from hlo)
      have HGG := Lib.hid hgg
      have HID := Lib.hid hid
      have HWI := Lib.hid (show wrap64 ((i : Int) + 1) = ((i + 1 : Nat) : Int) by have := HN.out; unfold wrap64; omega)
      replace p1 := eq_true p1
      replace q1 := eq_true q1
      obtain ⟨Ao, co, eo⟩ := Kd.S_slice HO.out
      subst eo
      clear hlo hy hrd hlt hgg hid HLO
      have HGa := Aside0.mk (blk_new wr (.cells #[.int .i64 y] 3 (0, 0)))
      have HOa := Aside0.mk (Kd.S_mono (Kd.S_alloc (Kd.S_elderB HO.out wr.heap.size (Nat.le_refl _)) (.cells #[.int .i64 y] 3 (0, 0))) (fun k_ h_ => (h_.2 : k_ ≠ wr.heap.size)))
      have HBa := Aside0.mk (below_alloc HB.out (.cells #[.int .i64 y] 3 (0, 0)))
      have HIL := Lib.hid (show i < l0_1.length by have := HID.out; omega)
      have HON := Lib.hid (show out.length ≤ 1000 by have := HL.out; have := HN.out; have := HIL.out; omega)
      clear HO HB
      go_wp2
      clear hx1_0
      obtain ⟨AT, hAT⟩ : ∃ AT, AT = lvAt out y out.length := ⟨_, rfl⟩
      have HAT0 := Aside0.mk hAT
      clear hAT
      go_loopg [6] out.length (fun gg v6 wi => ∃ (t q : Nat), t ≤ out.length ∧ t ≤ gg ∧ v6 = .int .i64 (t : Int) ∧ wi = (wr.alloc (.cells #[.int .i64 y] 3)).drewN q ∧ Aside0 (lvAt out y t = lvAt out y out.length))
      case atStart => exact ⟨out.length, 0, Nat.le_refl _, Nat.le_refl _, rfl, rfl, ⟨rfl⟩⟩
      case round =>
        obtain ⟨t, q, htl, hgt, rfl, rfl, HAA⟩ := hrel
        have n0_ := Aside0.mk (Kd.S_drewN HOa.out q)
        have n1_ := Aside0.mk (pw_below_drewN HBa.out q)
        have n2_ := Aside0.mk (blk_drewN HGa.out q)
        clear HOa HBa HGa
        have HOa := n0_
        have HBa := n1_
        have HGa := n2_
        clear n0_ n1_ n2_
        by_cases ht0 : t = 0
        · have dz1 : decide (0 < t) = false := decide_eq_false (by omega)
          have dz2 : decide ((0 : Int) < (t : Int)) = false := decide_eq_false (by omega)
          have HAT := Aside0.mk (show lvAt out y out.length = t by rw [← HAA.out, ht0]; rfl)
          generalize (wr.alloc (.cells #[.int .i64 y] 3)).drewN q = wz at HOa HBa HGa ⊢
          generalize wr.heap.size = gr at HOa HGa ⊢
          have htl2 := htl
          clear ht0 hgt HAA HAT0
          by_cases hE : t = out.length
          · clear htl
            have HEQ := Lib.hid hE
            have e1 : (t == out.length) = true := by simp [hE]
            have e2 : ((t : Int) == (out.length : Int)) = true := by simp [hE]
            clear hE
            go_wp2_with (first | ((with_reducible refine gate_builtin (b := .append) (xs := #[.tmp 37, .tmp 38]) rfl ?_); at_builtin; refine Kd.S_append (Kd.slice 3 (Kd.int .i64)) (w0 := w) w.heap.size rfl (.tmp 37) (.tmp 38) 25 31 (.slice none 0 0) 24 rfl Tryz.underlying25 lvInfo rfl (by decide) (by omega) (.slice Ao out.length co) out [] [.slice none 0 0] (fun k_ => k_ ≠ gr) (fun _ => False) rfl rfl ?aP (fun _ hk => hk.elim) ?aF ?aO ?aB ?aS ?aL ?_; (case aP => exact ⟨_, rfl, Kd.R_nil _ _ _ _ _⟩); (case aB => exact HBa.out); (case aF => exact (fun k_ hk => Nat.ne_of_gt (Nat.lt_of_lt_of_le (blk_lt HGa.out) hk))); (case aO => exact Kd.S_mono HOa.out (fun k_ h_ => ⟨h_, fun h => h⟩)); (case aS => exact HBa.out.size); (case aL => exact (by have := HN.out; have := HL.out; have := HIL.out; omega)); intro v2 wA ho hb hg hat; have n0_ := Aside0.mk ho; have n1_ := Aside0.mk hb; have n2_ := Aside0.mk (blk_grown HGa.out hg (fun e_ => ((Kd.S_R HOa.out).1 gr e_.symm) rfl)); clear HOa HBa HGa ho hb hg hat; have HOa := n0_; have HBa := n1_; have HGa := n2_; clear n0_ n1_ n2_))
            obtain ⟨O2, hO2⟩ : ∃ O, O = out ++ [[]] := ⟨_, rfl⟩
            rw [← hO2] at HOa
            have HO2 := Aside0.mk hO2
            have hpos : 0 < O2.length := by rw [hO2]; simp
            obtain ⟨go, cap, ev, _, _, _⟩ := Kd.S_form HOa.out hpos
            subst ev
            have HTL := Lib.hid (show t < O2.length by rw [hO2, HEQ.out]; simp)
            have HLBO := Aside0.mk (show LvB i O2 by rw [hO2]; exact HLB.out.snoc)
            have HO2L := Lib.hid (show O2.length ≤ out.length + 1 by rw [hO2]; simp)
            clear hpos hO2
            have htl : t < O2.length := HTL.out
            have hOb := Kd.S_mono (Kd.S_bound HOa.out) (fun k_ h_ => (⟨h_.1, Nat.not_le.2 h_.2.2.1⟩ : k_ ≠ gr ∧ ¬ (wA.heap.size ≤ k_)))
            obtain ⟨oki, c, hcl, hM, hcc, hfr, hoki, hH⟩ := Kd.S_elem hOb [] (t : Int) (by omega) (by omega)
            obtain ⟨vt, rfl, hRt⟩ := hM
            have hvt : wA.cell? ⟨go, t, none⟩ = some vt := by have h1 := hcc 0 vt rfl; rw [show ((t : Int)).toNat = t from rfl] at h1; simpa [Kd.slice] using h1
            have hfz : wA.frozen? ⟨go, t, none⟩ = false := by have h1 := hfr 0; rw [show ((t : Int)).toNat = t from rfl] at h1; simpa [Kd.slice] using h1
            have hgo : go < wA.heap.size := (Kd.S_lt HOa.out) go (by simp [Value.ownBlock])
            have hgr : gr < wA.heap.size := blk_lt HGa.out
            have hogr : ∀ k_, oki k_ → k_ ≠ gr := fun k_ h_ => (hoki k_ h_).1.1
            have hogo : ∀ k_, oki k_ → k_ ≠ go := fun k_ h_ => (hoki k_ h_).2
            obtain ⟨X, hX⟩ : ∃ X, X = O2.getD t [] := ⟨_, rfl⟩
            rw [show ((t : Int)).toNat = t from rfl, ← hX] at hRt
            have HRT := Aside0.mk (Kd.R_mono hRt (fun k_ h_ => (Or.inl h_ : oki k_ ∨ wA.heap.size ≤ k_)))
            have HRB := Aside0.mk hRt.1
            have HHH := Aside0.mk hH
            have HVT := Aside0.mk hvt
            have HFZ := Aside0.mk hfz
            have HGO := Lib.hid hgo
            have HGR := Lib.hid hgr
            have HGG2 := Aside0.mk hogr
            have HGG3 := Aside0.mk hogo
            have HX := Aside0.mk hX
            have p3 : 0 ≤ ((t : Nat) : Int) := by omega
            have q3 : ((t : Nat) : Int) < ((O2.length : Nat) : Int) := by omega
            replace p3 := eq_true p3
            replace q3 := eq_true q3
            clear hOb hcl hcc hfr hoki hH hvt hfz hgo hgr hogr hogo hX hRt htl HOa
            have HXL := Lib.hid (show X.length ≤ i by rw [HX.out]; exact LvB.getD HLBO.out t)
            refine start_ (n := 11) (S := fun w' => w'.cell? ⟨go, t, none⟩ = some vt ∧ w'.cell? ⟨gr, 0, none⟩ = some (.int .i64 y)) (ds := [10]) #[false, false, false, false, false, false, false, false, false, false, false] (by kernel_rfl) rfl rfl ⟨HVT.out, (blk_cell HGa.out 0).trans rfl⟩ (fun hHeld => ?_)
            refine pure_ (i := 0) (N := some 40) (v := ?_) (a' := ?_) #[true, false, false, false, false, false, false, false, false, false, false] rfl rfl (by kernel_rfl) (fun _ _ _ h => h) (Or.inl ⟨by rfl, ?_⟩) ?_ ?_
            rotate_left
            · intro w'
              go_simp
              with_reducible rfl
            rotate_left
            · simp only [Act.put, List.setIfInBounds_toArray, List.set_cons_zero, List.set_cons_succ, i64_w, i32_w]
              rfl
            refine pure_ (i := 1) (N := some 41) (v := ?_) (a' := ?_) #[true, true, false, false, false, false, false, false, false, false, false] rfl rfl (by kernel_rfl) (fun _ _ _ h => h) (Or.inl ⟨by rfl, ?_⟩) ?_ ?_
            rotate_left
            · intro w'
              go_simp
              with_reducible rfl
            rotate_left
            · simp only [Act.put, List.setIfInBounds_toArray, List.set_cons_zero, List.set_cons_succ, i64_w, i32_w]
              rfl
            refine pure_ (i := 2) (N := some 42) (v := ?_) (a' := ?_) #[true, true, true, false, false, false, false, false, false, false, false] rfl rfl (by kernel_rfl) (fun _ _ _ h => h) (Or.inl ⟨by rfl, ?_⟩) ?_ ?_
            rotate_left
            · intro w'
              go_simp
              with_reducible rfl
            rotate_left
            · simp only [Act.put, List.setIfInBounds_toArray, List.set_cons_zero, List.set_cons_succ, i64_w, i32_w]
              rfl
            refine pure_ (i := 3) (N := some 43) (v := ?_) (a' := ?_) #[true, true, true, true, false, false, false, false, false, false, false] rfl rfl (by kernel_rfl) (fun _ _ _ h => h) (Or.inl ⟨by rfl, ?_⟩) ?_ ?_
            rotate_left
            · intro w'
              go_simp
              with_reducible rfl
            rotate_left
            · simp only [Act.put, List.setIfInBounds_toArray, List.set_cons_zero, List.set_cons_succ, i64_w, i32_w]
              rfl
            refine pure_ (i := 4) (N := some 44) (v := ?_) (a' := ?_) #[true, true, true, true, true, false, false, false, false, false, false] rfl rfl (by kernel_rfl) (fun _ _ _ h => h) (Or.inl ⟨by rfl, ?_⟩) ?_ ?_
            rotate_left
            · intro w'
              go_simp
              with_reducible rfl
            rotate_left
            · simp only [Act.put, List.setIfInBounds_toArray, List.set_cons_zero, List.set_cons_succ, i64_w, i32_w]
              rfl
            refine take_ (i := 5) (N := some 45) (v := ?_) (a' := ?_) #[true, true, true, true, true, true, false, false, false, false, false] rfl rfl (by kernel_rfl) (fun _ _ _ h => h) (Or.inl ⟨by rfl, ?_⟩) hHeld ?_ ?_
            rotate_left
            · rintro w' ⟨s0, s1⟩
              go_simp
              with_reducible rfl
            rotate_left
            · simp only [Act.put, List.setIfInBounds_toArray, List.set_cons_zero, List.set_cons_succ, i64_w, i32_w]
              rfl
            refine take_ (i := 6) (N := some 46) (v := ?_) (a' := ?_) #[true, true, true, true, true, true, true, false, false, false, false] rfl rfl (by kernel_rfl) (fun _ _ _ h => h) (Or.inl ⟨by rfl, ?_⟩) hHeld ?_ ?_
            rotate_left
            · rintro w' ⟨s0, s1⟩
              go_simp
              with_reducible rfl
            rotate_left
            · simp only [Act.put, List.setIfInBounds_toArray, List.set_cons_zero, List.set_cons_succ, i64_w, i32_w]
              rfl
            have HBd := Aside0.mk (below_drew1 HBa.out)
            have HRTd := Aside0.mk (Kd.R_drew HRT.out)
            have HHd := Aside0.mk (Kd.H_drew HHH.out)
            have HGd := Aside0.mk (blk_drew HGa.out)
            have HVd := Aside0.mk (show wA.drew.cell? ⟨go, t, none⟩ = some vt from HVT.out)
            have HFd := Aside0.mk (show wA.drew.frozen? ⟨go, t, none⟩ = false from HFZ.out)
            have HSd := Aside0.mk (show wA.drew.heap.size = wA.heap.size from rfl)
            generalize wA.drew = wB at HBd HRTd HHd HGd HVd HFd HSd hHeld ⊢
            clear HRT HHH HGa HVT HFZ HBa
            refine one_ (i := 7) (N := some 47) #[true, true, true, true, true, true, true, true, false, false, false] rfl rfl (by kernel_rfl) (by decide) (fun K hK => ?_)
            refine event_step (by rfl) (v := .slice (some ⟨wB.heap.size, 0, none⟩) 1 1) (w1 := wB.alloc (.cells #[.int .i64 y] 3 (0, 0))) (by go_simp) ?_
            refine hK.out _ _ ⟨(Below.cell (below_alloc (Below.refl _ _) _) (p := ⟨go, t, none⟩) (by rw [HSd.out]; exact HGO.out)).trans HVd.out, (Below.cell (below_alloc (Below.refl _ _) _) (p := ⟨gr, 0, none⟩) (by rw [HSd.out]; exact HGR.out)).trans ((blk_cell HGd.out 0).trans rfl)⟩ (fun hHeld => ?_)
            clear hK K
            refine norm_ (a' := ?_) ?_ ?_
            rotate_left
            · show Act.put _ (some 47) _ = _
              simp only [Act.put, List.setIfInBounds_toArray, List.set_cons_zero, List.set_cons_succ, i64_w, i32_w]
              rfl
            refine one_ (i := 8) (N := some 48) #[true, true, true, true, true, true, true, true, true, false, false] rfl rfl (by kernel_rfl) (by decide) (fun K hK => ?_)
            refine Kd.R_append_step (Kd.int .i64) (w0 := w) w.heap.size (by rfl) (.tmp 45) (.tmp 47) 31 3 (.int .i64 0) 8 rfl Tryz.underlying31 info3 rfl (by decide) (by omega) vt X y [.int .i64 y] (fun k_ => oki k_ ∨ wA.heap.size ≤ k_) (fun _ => False) rfl rfl rfl (fun _ hk => hk.elim) (fun k_ hk => Or.inr (by rw [← HSd.out]; exact hk)) HRTd.out HBd.out HBd.out.size (by have := HXL.out; have := HIL.out; have := HN.out; omega) ?_
            intro v1_ w1 ho hb hg hat
            obtain ⟨Av, cv, ev⟩ := Kd.R_slice ho
            subst ev
            have hng : ∀ k_, vt.ownBlock = some k_ → k_ ≠ go ∧ k_ ≠ gr := fun k_ e_ => ⟨HGG3.out k_ (HRB.out k_ e_), HGG2.out k_ (HRB.out k_ e_)⟩
            have HR1 := Aside0.mk ho
            have HB1 := Aside0.mk hb
            have HH1 := Aside0.mk (Kd.H_grown HHd.out hg (fun k_ e_ => HRB.out k_ e_))
            have HG1 := Aside0.mk (blk_grown HGd.out hg (fun e_ => (hng gr e_.symm).2 rfl))
            have HV1 := Aside0.mk (show w1.cell? ⟨go, t, none⟩ = some vt by
              have h1 := hg.block go (by rw [HSd.out]; exact HGO.out) (fun e_ => (hng go e_.symm).1 rfl)
              exact (cellH h1).trans HVd.out)
            have HF1 := Aside0.mk (show w1.frozen? ⟨go, t, none⟩ = false by
              have h1 := hg.block go (by rw [HSd.out]; exact HGO.out) (fun e_ => (hng go e_.symm).1 rfl)
              exact (frozenH h1).trans HFd.out)
            clear HRTd HBd HHd HGd HVd HFd ho hb hg hat hng
            refine hK.out _ _ ⟨HV1.out, (blk_cell HG1.out 0).trans rfl⟩ (fun hHeld => ?_)
            clear hK K
            refine norm_ (a' := ?_) ?_ ?_
            rotate_left
            · show Act.put _ (some 48) _ = _
              simp only [Act.put, List.setIfInBounds_toArray, List.set_cons_zero, List.set_cons_succ, i64_w, i32_w]
              rfl
            refine pure_ (i := 9) (N := some 49) (v := ?_) (a' := ?_) #[true, true, true, true, true, true, true, true, true, true, false] rfl rfl (by kernel_rfl) (fun _ _ _ h => h) (Or.inl ⟨by rfl, ?_⟩) ?_ ?_
            rotate_left
            · intro w'
              go_simp
              with_reducible rfl
            rotate_left
            · simp only [Act.put, List.setIfInBounds_toArray, List.set_cons_zero, List.set_cons_succ, i64_w, i32_w]
              rfl
            have hcv := HV1.out
            have hcf := HF1.out
            refine last_ (i := 10) (N := none) #[true, true, true, true, true, true, true, true, true, true, true] rfl rfl (by kernel_rfl) (by decide) (fun K hK => ?_)
            refine skip_stepL (by rfl) rfl (w1 := w1.setCell ⟨go, t, none⟩ (.slice Av (X ++ [y]).length cv)) (by go_simp) ?_
            obtain ⟨hS2, hg2⟩ := Kd.S_seg (okg := fun k_ => wA.heap.size ≤ k_) (okp := fun k_ => oki k_ ∨ wA.heap.size ≤ k_) (ok := fun k_ => k_ ≠ gr) (seg := [(.slice Av (X ++ [y]).length cv)]) (j := 0) (x' := X ++ [y]) HH1.out (by omega) (by have := HTL.out; omega) (by simp [Kd.slice]) ⟨.slice Av (X ++ [y]).length cv, by simp [Kd.slice], HR1.out⟩ (fun k_ h_ => h_) (fun k_ h_ => ⟨by have := HGR.out; omega, by have := HGO.out; omega⟩)
            have HS2 := Aside0.mk (show Kd.S (Kd.slice 3 (Kd.int .i64)) 31 (w1.setCell ⟨go, t, none⟩ (.slice Av (X ++ [y]).length cv)) w.heap.size (fun k_ => k_ ≠ gr) (.slice (some ⟨go, 0, none⟩) O2.length cap) (O2.set t (X ++ [y])) by
              have h1 := hS2
              rw [show ((t : Int)).toNat = t from rfl] at h1
              simpa [Kd.slice, World.setCells] using h1)
            have HB2 := Aside0.mk (below_set (j := t) (v := .slice Av (X ++ [y]).length cv) HB1.out (Kd.S_base HS2.out go (by simp [Value.ownBlock])))
            clear hS2 hg2 hcv hcf HR1 HB1 HH1 HV1 HF1
            refine hK.out _ _ ?_
            clear hK K hHeld
            refine done_ (by kernel_rfl) ?_
            generalize w1.setCell ⟨go, t, none⟩ (.slice Av (X ++ [y]).length cv) = w8 at HS2 HB2 ⊢
            have hput : lvPut out y = O2.set t (X ++ [y]) := by
              have hat := HAT.out
              have hx := HX.out
              unfold lvPut
              rw [hat, if_pos HEQ.out, hx, HO2.out, HEQ.out, List.getD_eq_getElem?_getD, List.getElem?_append_right (Nat.le_refl _), List.set_append_right _ _ (Nat.le_refl _), Nat.sub_self]; rfl
            have HLO3 := Aside0.mk (show lvPuts (O2.set t (X ++ [y])) (l0_1.drop (i + 1)) = LO by rw [← hput]; exact HLO2.out)
            clear hput
            go_wp2
            go_roundg d
            case measure => have := HGG.out; omega
            case rel => exact ⟨d, i + 1, _, Nat.le_refl _, by have := HID.out; omega, by rw [← HWI.out], HLO3, ⟨by rw [List.length_set]; have := HL.out; have := HTL.out; first | omega | (have := HO2L.out; omega)⟩, ⟨LvB.set HLBO.out (by have := HXL.out; rw [List.length_append]; simp; omega)⟩, ⟨Kd.S_mono HS2.out (fun _ _ => trivial)⟩, HB2⟩
          · clear htl2
            have HEQ := Lib.hid hE
            have e1 : (t == out.length) = false := by simp [hE]
            have e2 : ((t : Int) == (out.length : Int)) = false := by
              have : ¬ (t : Int) = (out.length : Int) := by omega
              simp [this]
            have HTL := Lib.hid (show t < out.length by omega)
            have HLBO := HLB
            clear hE
            go_wp2
            obtain ⟨go, cap, ev, _, _, _⟩ := Kd.S_form HOa.out (by have := HTL.out; omega)
            injection ev with ev1 ev2 ev3
            subst ev1
            obtain rfl : cap = co := ev3.symm
            clear ev2
            obtain ⟨wA, rfl⟩ : ∃ x, x = wz := ⟨_, rfl⟩
            have htl : t < out.length := HTL.out
            have hOb := Kd.S_mono (Kd.S_bound HOa.out) (fun k_ h_ => (⟨h_.1, Nat.not_le.2 h_.2.2.1⟩ : k_ ≠ gr ∧ ¬ (wA.heap.size ≤ k_)))
            obtain ⟨oki, c, hcl, hM, hcc, hfr, hoki, hH⟩ := Kd.S_elem hOb [] (t : Int) (by omega) (by omega)
            obtain ⟨vt, rfl, hRt⟩ := hM
            have hvt : wA.cell? ⟨go, t, none⟩ = some vt := by have h1 := hcc 0 vt rfl; rw [show ((t : Int)).toNat = t from rfl] at h1; simpa [Kd.slice] using h1
            have hfz : wA.frozen? ⟨go, t, none⟩ = false := by have h1 := hfr 0; rw [show ((t : Int)).toNat = t from rfl] at h1; simpa [Kd.slice] using h1
            have hgo : go < wA.heap.size := (Kd.S_lt HOa.out) go (by simp [Value.ownBlock])
            have hgr : gr < wA.heap.size := blk_lt HGa.out
            have hogr : ∀ k_, oki k_ → k_ ≠ gr := fun k_ h_ => (hoki k_ h_).1.1
            have hogo : ∀ k_, oki k_ → k_ ≠ go := fun k_ h_ => (hoki k_ h_).2
            obtain ⟨X, hX⟩ : ∃ X, X = out.getD t [] := ⟨_, rfl⟩
            rw [show ((t : Int)).toNat = t from rfl, ← hX] at hRt
            have HRT := Aside0.mk (Kd.R_mono hRt (fun k_ h_ => (Or.inl h_ : oki k_ ∨ wA.heap.size ≤ k_)))
            have HRB := Aside0.mk hRt.1
            have HHH := Aside0.mk hH
            have HVT := Aside0.mk hvt
            have HFZ := Aside0.mk hfz
            have HGO := Lib.hid hgo
            have HGR := Lib.hid hgr
            have HGG2 := Aside0.mk hogr
            have HGG3 := Aside0.mk hogo
            have HX := Aside0.mk hX
            have p3 : 0 ≤ ((t : Nat) : Int) := by omega
            have q3 : ((t : Nat) : Int) < ((out.length : Nat) : Int) := by omega
            replace p3 := eq_true p3
            replace q3 := eq_true q3
            clear hOb hcl hcc hfr hoki hH hvt hfz hgo hgr hogr hogo hX hRt htl HOa
            have HXL := Lib.hid (show X.length ≤ i by rw [HX.out]; exact LvB.getD HLBO.out t)
            refine start_ (n := 11) (S := fun w' => w'.cell? ⟨go, t, none⟩ = some vt ∧ w'.cell? ⟨gr, 0, none⟩ = some (.int .i64 y)) (ds := [10]) #[false, false, false, false, false, false, false, false, false, false, false] (by kernel_rfl) rfl rfl ⟨HVT.out, (blk_cell HGa.out 0).trans rfl⟩ (fun hHeld => ?_)
            refine pure_ (i := 0) (N := some 40) (v := ?_) (a' := ?_) #[true, false, false, false, false, false, false, false, false, false, false] rfl rfl (by kernel_rfl) (fun _ _ _ h => h) (Or.inl ⟨by rfl, ?_⟩) ?_ ?_
            rotate_left
            · intro w'
              go_simp
              with_reducible rfl
            rotate_left
            · simp only [Act.put, List.setIfInBounds_toArray, List.set_cons_zero, List.set_cons_succ, i64_w, i32_w]
              rfl
            refine pure_ (i := 1) (N := some 41) (v := ?_) (a' := ?_) #[true, true, false, false, false, false, false, false, false, false, false] rfl rfl (by kernel_rfl) (fun _ _ _ h => h) (Or.inl ⟨by rfl, ?_⟩) ?_ ?_
            rotate_left
            · intro w'
              go_simp
              with_reducible rfl
            rotate_left
            · simp only [Act.put, List.setIfInBounds_toArray, List.set_cons_zero, List.set_cons_succ, i64_w, i32_w]
              rfl
            refine pure_ (i := 2) (N := some 42) (v := ?_) (a' := ?_) #[true, true, true, false, false, false, false, false, false, false, false] rfl rfl (by kernel_rfl) (fun _ _ _ h => h) (Or.inl ⟨by rfl, ?_⟩) ?_ ?_
            rotate_left
            · intro w'
              go_simp
              with_reducible rfl
            rotate_left
            · simp only [Act.put, List.setIfInBounds_toArray, List.set_cons_zero, List.set_cons_succ, i64_w, i32_w]
              rfl
            refine pure_ (i := 3) (N := some 43) (v := ?_) (a' := ?_) #[true, true, true, true, false, false, false, false, false, false, false] rfl rfl (by kernel_rfl) (fun _ _ _ h => h) (Or.inl ⟨by rfl, ?_⟩) ?_ ?_
            rotate_left
            · intro w'
              go_simp
              with_reducible rfl
            rotate_left
            · simp only [Act.put, List.setIfInBounds_toArray, List.set_cons_zero, List.set_cons_succ, i64_w, i32_w]
              rfl
            refine pure_ (i := 4) (N := some 44) (v := ?_) (a' := ?_) #[true, true, true, true, true, false, false, false, false, false, false] rfl rfl (by kernel_rfl) (fun _ _ _ h => h) (Or.inl ⟨by rfl, ?_⟩) ?_ ?_
            rotate_left
            · intro w'
              go_simp
              with_reducible rfl
            rotate_left
            · simp only [Act.put, List.setIfInBounds_toArray, List.set_cons_zero, List.set_cons_succ, i64_w, i32_w]
              rfl
            refine take_ (i := 5) (N := some 45) (v := ?_) (a' := ?_) #[true, true, true, true, true, true, false, false, false, false, false] rfl rfl (by kernel_rfl) (fun _ _ _ h => h) (Or.inl ⟨by rfl, ?_⟩) hHeld ?_ ?_
            rotate_left
            · rintro w' ⟨s0, s1⟩
              go_simp
              with_reducible rfl
            rotate_left
            · simp only [Act.put, List.setIfInBounds_toArray, List.set_cons_zero, List.set_cons_succ, i64_w, i32_w]
              rfl
            refine take_ (i := 6) (N := some 46) (v := ?_) (a' := ?_) #[true, true, true, true, true, true, true, false, false, false, false] rfl rfl (by kernel_rfl) (fun _ _ _ h => h) (Or.inl ⟨by rfl, ?_⟩) hHeld ?_ ?_
            rotate_left
            · rintro w' ⟨s0, s1⟩
              go_simp
              with_reducible rfl
            rotate_left
            · simp only [Act.put, List.setIfInBounds_toArray, List.set_cons_zero, List.set_cons_succ, i64_w, i32_w]
              rfl
            have HBd := Aside0.mk (below_drew1 HBa.out)
            have HRTd := Aside0.mk (Kd.R_drew HRT.out)
            have HHd := Aside0.mk (Kd.H_drew HHH.out)
            have HGd := Aside0.mk (blk_drew HGa.out)
            have HVd := Aside0.mk (show wA.drew.cell? ⟨go, t, none⟩ = some vt from HVT.out)
            have HFd := Aside0.mk (show wA.drew.frozen? ⟨go, t, none⟩ = false from HFZ.out)
            have HSd := Aside0.mk (show wA.drew.heap.size = wA.heap.size from rfl)
            generalize wA.drew = wB at HBd HRTd HHd HGd HVd HFd HSd hHeld ⊢
            clear HRT HHH HGa HVT HFZ HBa
            refine one_ (i := 7) (N := some 47) #[true, true, true, true, true, true, true, true, false, false, false] rfl rfl (by kernel_rfl) (by decide) (fun K hK => ?_)
            refine event_step (by rfl) (v := .slice (some ⟨wB.heap.size, 0, none⟩) 1 1) (w1 := wB.alloc (.cells #[.int .i64 y] 3 (0, 0))) (by go_simp) ?_
            refine hK.out _ _ ⟨(Below.cell (below_alloc (Below.refl _ _) _) (p := ⟨go, t, none⟩) (by rw [HSd.out]; exact HGO.out)).trans HVd.out, (Below.cell (below_alloc (Below.refl _ _) _) (p := ⟨gr, 0, none⟩) (by rw [HSd.out]; exact HGR.out)).trans ((blk_cell HGd.out 0).trans rfl)⟩ (fun hHeld => ?_)
            clear hK K
            refine norm_ (a' := ?_) ?_ ?_
            rotate_left
            · show Act.put _ (some 47) _ = _
              simp only [Act.put, List.setIfInBounds_toArray, List.set_cons_zero, List.set_cons_succ, i64_w, i32_w]
              rfl
            refine one_ (i := 8) (N := some 48) #[true, true, true, true, true, true, true, true, true, false, false] rfl rfl (by kernel_rfl) (by decide) (fun K hK => ?_)
            refine Kd.R_append_step (Kd.int .i64) (w0 := w) w.heap.size (by rfl) (.tmp 45) (.tmp 47) 31 3 (.int .i64 0) 8 rfl Tryz.underlying31 info3 rfl (by decide) (by omega) vt X y [.int .i64 y] (fun k_ => oki k_ ∨ wA.heap.size ≤ k_) (fun _ => False) rfl rfl rfl (fun _ hk => hk.elim) (fun k_ hk => Or.inr (by rw [← HSd.out]; exact hk)) HRTd.out HBd.out HBd.out.size (by have := HXL.out; have := HIL.out; have := HN.out; omega) ?_
            intro v1_ w1 ho hb hg hat
            obtain ⟨Av, cv, ev⟩ := Kd.R_slice ho
            subst ev
            have hng : ∀ k_, vt.ownBlock = some k_ → k_ ≠ go ∧ k_ ≠ gr := fun k_ e_ => ⟨HGG3.out k_ (HRB.out k_ e_), HGG2.out k_ (HRB.out k_ e_)⟩
            have HR1 := Aside0.mk ho
            have HB1 := Aside0.mk hb
            have HH1 := Aside0.mk (Kd.H_grown HHd.out hg (fun k_ e_ => HRB.out k_ e_))
            have HG1 := Aside0.mk (blk_grown HGd.out hg (fun e_ => (hng gr e_.symm).2 rfl))
            have HV1 := Aside0.mk (show w1.cell? ⟨go, t, none⟩ = some vt by
              have h1 := hg.block go (by rw [HSd.out]; exact HGO.out) (fun e_ => (hng go e_.symm).1 rfl)
              exact (cellH h1).trans HVd.out)
            have HF1 := Aside0.mk (show w1.frozen? ⟨go, t, none⟩ = false by
              have h1 := hg.block go (by rw [HSd.out]; exact HGO.out) (fun e_ => (hng go e_.symm).1 rfl)
              exact (frozenH h1).trans HFd.out)
            clear HRTd HBd HHd HGd HVd HFd ho hb hg hat hng
            refine hK.out _ _ ⟨HV1.out, (blk_cell HG1.out 0).trans rfl⟩ (fun hHeld => ?_)
            clear hK K
            refine norm_ (a' := ?_) ?_ ?_
            rotate_left
            · show Act.put _ (some 48) _ = _
              simp only [Act.put, List.setIfInBounds_toArray, List.set_cons_zero, List.set_cons_succ, i64_w, i32_w]
              rfl
            refine pure_ (i := 9) (N := some 49) (v := ?_) (a' := ?_) #[true, true, true, true, true, true, true, true, true, true, false] rfl rfl (by kernel_rfl) (fun _ _ _ h => h) (Or.inl ⟨by rfl, ?_⟩) ?_ ?_
            rotate_left
            · intro w'
              go_simp
              with_reducible rfl
            rotate_left
            · simp only [Act.put, List.setIfInBounds_toArray, List.set_cons_zero, List.set_cons_succ, i64_w, i32_w]
              rfl
            have hcv := HV1.out
            have hcf := HF1.out
            refine last_ (i := 10) (N := none) #[true, true, true, true, true, true, true, true, true, true, true] rfl rfl (by kernel_rfl) (by decide) (fun K hK => ?_)
            refine skip_stepL (by rfl) rfl (w1 := w1.setCell ⟨go, t, none⟩ (.slice Av (X ++ [y]).length cv)) (by go_simp) ?_
            obtain ⟨hS2, hg2⟩ := Kd.S_seg (okg := fun k_ => wA.heap.size ≤ k_) (okp := fun k_ => oki k_ ∨ wA.heap.size ≤ k_) (ok := fun k_ => k_ ≠ gr) (seg := [(.slice Av (X ++ [y]).length cv)]) (j := 0) (x' := X ++ [y]) HH1.out (by omega) (by have := HTL.out; omega) (by simp [Kd.slice]) ⟨.slice Av (X ++ [y]).length cv, by simp [Kd.slice], HR1.out⟩ (fun k_ h_ => h_) (fun k_ h_ => ⟨by have := HGR.out; omega, by have := HGO.out; omega⟩)
            have HS2 := Aside0.mk (show Kd.S (Kd.slice 3 (Kd.int .i64)) 31 (w1.setCell ⟨go, t, none⟩ (.slice Av (X ++ [y]).length cv)) w.heap.size (fun k_ => k_ ≠ gr) (.slice (some ⟨go, 0, none⟩) out.length cap) (out.set t (X ++ [y])) by
              have h1 := hS2
              rw [show ((t : Int)).toNat = t from rfl] at h1
              simpa [Kd.slice, World.setCells] using h1)
            have HB2 := Aside0.mk (below_set (j := t) (v := .slice Av (X ++ [y]).length cv) HB1.out (Kd.S_base HS2.out go (by simp [Value.ownBlock])))
            clear hS2 hg2 hcv hcf HR1 HB1 HH1 HV1 HF1
            refine hK.out _ _ ?_
            clear hK K hHeld
            refine done_ (by kernel_rfl) ?_
            generalize w1.setCell ⟨go, t, none⟩ (.slice Av (X ++ [y]).length cv) = w8 at HS2 HB2 ⊢
            have hput : lvPut out y = out.set t (X ++ [y]) := by
              have hat := HAT.out
              have hx := HX.out
              unfold lvPut
              rw [hat, if_neg HEQ.out, hx]
            have HLO3 := Aside0.mk (show lvPuts (out.set t (X ++ [y])) (l0_1.drop (i + 1)) = LO by rw [← hput]; exact HLO2.out)
            clear hput
            go_wp2
            go_roundg d
            case measure => have := HGG.out; omega
            case rel => exact ⟨d, i + 1, _, Nat.le_refl _, by have := HID.out; omega, by rw [← HWI.out], HLO3, ⟨by rw [List.length_set]; have := HL.out; have := HTL.out; first | omega | (have := HO2L.out; omega)⟩, ⟨LvB.set HLBO.out (by have := HXL.out; rw [List.length_append]; simp; omega)⟩, ⟨Kd.S_mono HS2.out (fun _ _ => trivial)⟩, HB2⟩
        · obtain ⟨t1, ht1⟩ : ∃ t1, t = t1 + 1 := ⟨t - 1, by omega⟩
          have dz1 : decide (0 < t) = true := decide_eq_true (by omega)
          have dz2 : decide ((0 : Int) < (t : Int)) = true := decide_eq_true (by omega)
          have ew : wrap64 ((t : Int) - 1) = (t1 : Int) := by have := HON.out; unfold wrap64; omega
          obtain ⟨go0, cap0, ev0, _, _, _⟩ := Kd.S_form HOa.out (by omega)
          injection ev0 with ev1 ev2 ev3
          subst ev1
          obtain rfl : cap0 = co := ev3.symm
          clear ev2
          obtain ⟨c1, hcl1, hM1, hcc1⟩ := Kd.S_get HOa.out [] (t1 : Int) (by omega) (by omega)
          obtain ⟨vj, rfl, hRj⟩ := hM1
          have hvj := hcc1 0 vj rfl
          rw [show ((t1 : Int)).toNat = t1 from rfl] at hvj hRj
          have hvj2 : ((wr.alloc (.cells #[.int .i64 y] 3)).drewN q).cell? ⟨go0, t1, none⟩ = some vj := by rw [add_at] at hvj; simpa [Kd.slice] using hvj
          obtain ⟨Xj, hXj⟩ : ∃ X, X = out.getD t1 [] := ⟨_, rfl⟩
          rw [← hXj] at hRj
          obtain ⟨Aj, cj, ej⟩ := Kd.R_slice hRj
          subst ej
          have hcon := ContainsFunc_calls (fun o => !(apartV o y)) 81 #[.pointer (some ⟨wr.heap.size, 0, none⟩)] lv1_enters Aj cj Xj _ (Kd.R_reads' hRj).2.2 (fun W' x _ hb => levelsOf1_calls x y wr.heap.size W' ((hb.cell (p := ⟨wr.heap.size, 0, none⟩) (blk_lt HGa.out)).trans ((blk_cell HGa.out 0).trans rfl)))
          have HCON := Aside0.mk hcon
          have p4 : 0 ≤ ((t1 : Nat) : Int) := by clear ew; omega
          have q4 : ((t1 : Nat) : Int) < ((out.length : Nat) : Int) := by clear ew; omega
          replace p4 := eq_true p4
          replace q4 := eq_true q4
          have HXJ := Aside0.mk hXj
          have HT1 := Lib.hid ht1
          clear hcl1 hcc1 hvj hRj hXj hcon ht0 ht1 HAT0
          cases hany : Xj.any (fun o => !(apartV o y)) with
          | true =>
            rw [hany] at HCON
            have HAT := Aside0.mk (show lvAt out y out.length = t by rw [← HAA.out, HT1.out, lvAt, if_pos (by rw [← HXJ.out]; exact hany)])
            generalize (wr.alloc (.cells #[.int .i64 y] 3)).drewN q = wz at HOa HBa HGa HCON hvj2 ⊢
            generalize wr.heap.size = gr at HOa HGa HCON ⊢
            have htl2 := htl
            clear hgt HAA hany
            by_cases hE : t = out.length
            · clear htl
              have HEQ := Lib.hid hE
              have e1 : (t == out.length) = true := by simp [hE]
              have e2 : ((t : Int) == (out.length : Int)) = true := by simp [hE]
              clear hE
              go_wp2_with (first | (go_at_call 61; refine (HCON.out).mono ?_; rintro e w' ⟨rfl, ⟨q2, rfl⟩⟩; have n0_ := Aside0.mk (Kd.S_drewN HOa.out q2); have n1_ := Aside0.mk (pw_below_drewN HBa.out q2); have n2_ := Aside0.mk (blk_drewN HGa.out q2); clear HOa HBa HGa; have HOa := n0_; have HBa := n1_; have HGa := n2_; clear n0_ n1_ n2_) | ((with_reducible refine gate_builtin (b := .append) (xs := #[.tmp 37, .tmp 38]) rfl ?_); at_builtin; refine Kd.S_append (Kd.slice 3 (Kd.int .i64)) (w0 := w) w.heap.size rfl (.tmp 37) (.tmp 38) 25 31 (.slice none 0 0) 24 rfl Tryz.underlying25 lvInfo rfl (by decide) (by omega) (.slice (some ⟨go0, 0, none⟩) out.length cap0) out [] [.slice none 0 0] (fun k_ => k_ ≠ gr) (fun _ => False) rfl rfl ?aP (fun _ hk => hk.elim) ?aF ?aO ?aB ?aS ?aL ?_; (case aP => exact ⟨_, rfl, Kd.R_nil _ _ _ _ _⟩); (case aB => exact HBa.out); (case aF => exact (fun k_ hk => Nat.ne_of_gt (Nat.lt_of_lt_of_le (blk_lt HGa.out) hk))); (case aO => exact Kd.S_mono HOa.out (fun k_ h_ => ⟨h_, fun h => h⟩)); (case aS => exact HBa.out.size); (case aL => exact (by have := HN.out; have := HL.out; have := HIL.out; omega)); intro v2 wA ho hb hg hat; have n0_ := Aside0.mk ho; have n1_ := Aside0.mk hb; have n2_ := Aside0.mk (blk_grown HGa.out hg (fun e_ => ((Kd.S_R HOa.out).1 gr e_.symm) rfl)); clear HOa HBa HGa ho hb hg hat; have HOa := n0_; have HBa := n1_; have HGa := n2_; clear n0_ n1_ n2_))
              obtain ⟨O2, hO2⟩ : ∃ O, O = out ++ [[]] := ⟨_, rfl⟩
              rw [← hO2] at HOa
              have HO2 := Aside0.mk hO2
              have hpos : 0 < O2.length := by rw [hO2]; simp
              obtain ⟨go, cap, ev, _, _, _⟩ := Kd.S_form HOa.out hpos
              subst ev
              have HTL := Lib.hid (show t < O2.length by rw [hO2, HEQ.out]; simp)
              have HLBO := Aside0.mk (show LvB i O2 by rw [hO2]; exact HLB.out.snoc)
              have HO2L := Lib.hid (show O2.length ≤ out.length + 1 by rw [hO2]; simp)
              clear hpos hO2
              have htl : t < O2.length := HTL.out
              have hOb := Kd.S_mono (Kd.S_bound HOa.out) (fun k_ h_ => (⟨h_.1, Nat.not_le.2 h_.2.2.1⟩ : k_ ≠ gr ∧ ¬ (wA.heap.size ≤ k_)))
              obtain ⟨oki, c, hcl, hM, hcc, hfr, hoki, hH⟩ := Kd.S_elem hOb [] (t : Int) (by omega) (by omega)
              obtain ⟨vt, rfl, hRt⟩ := hM
              have hvt : wA.cell? ⟨go, t, none⟩ = some vt := by have h1 := hcc 0 vt rfl; rw [show ((t : Int)).toNat = t from rfl] at h1; simpa [Kd.slice] using h1
              have hfz : wA.frozen? ⟨go, t, none⟩ = false := by have h1 := hfr 0; rw [show ((t : Int)).toNat = t from rfl] at h1; simpa [Kd.slice] using h1
              have hgo : go < wA.heap.size := (Kd.S_lt HOa.out) go (by simp [Value.ownBlock])
              have hgr : gr < wA.heap.size := blk_lt HGa.out
              have hogr : ∀ k_, oki k_ → k_ ≠ gr := fun k_ h_ => (hoki k_ h_).1.1
              have hogo : ∀ k_, oki k_ → k_ ≠ go := fun k_ h_ => (hoki k_ h_).2
              obtain ⟨X, hX⟩ : ∃ X, X = O2.getD t [] := ⟨_, rfl⟩
              rw [show ((t : Int)).toNat = t from rfl, ← hX] at hRt
              have HRT := Aside0.mk (Kd.R_mono hRt (fun k_ h_ => (Or.inl h_ : oki k_ ∨ wA.heap.size ≤ k_)))
              have HRB := Aside0.mk hRt.1
              have HHH := Aside0.mk hH
              have HVT := Aside0.mk hvt
              have HFZ := Aside0.mk hfz
              have HGO := Lib.hid hgo
              have HGR := Lib.hid hgr
              have HGG2 := Aside0.mk hogr
              have HGG3 := Aside0.mk hogo
              have HX := Aside0.mk hX
              have p3 : 0 ≤ ((t : Nat) : Int) := by omega
              have q3 : ((t : Nat) : Int) < ((O2.length : Nat) : Int) := by omega
              replace p3 := eq_true p3
              replace q3 := eq_true q3
              clear hOb hcl hcc hfr hoki hH hvt hfz hgo hgr hogr hogo hX hRt htl HOa
              have HXL := Lib.hid (show X.length ≤ i by rw [HX.out]; exact LvB.getD HLBO.out t)
              refine start_ (n := 11) (S := fun w' => w'.cell? ⟨go, t, none⟩ = some vt ∧ w'.cell? ⟨gr, 0, none⟩ = some (.int .i64 y)) (ds := [10]) #[false, false, false, false, false, false, false, false, false, false, false] (by kernel_rfl) rfl rfl ⟨HVT.out, (blk_cell HGa.out 0).trans rfl⟩ (fun hHeld => ?_)
              refine pure_ (i := 0) (N := some 40) (v := ?_) (a' := ?_) #[true, false, false, false, false, false, false, false, false, false, false] rfl rfl (by kernel_rfl) (fun _ _ _ h => h) (Or.inl ⟨by rfl, ?_⟩) ?_ ?_
              rotate_left
              · intro w'
                go_simp
                with_reducible rfl
              rotate_left
              · simp only [Act.put, List.setIfInBounds_toArray, List.set_cons_zero, List.set_cons_succ, i64_w, i32_w]
                rfl
              refine pure_ (i := 1) (N := some 41) (v := ?_) (a' := ?_) #[true, true, false, false, false, false, false, false, false, false, false] rfl rfl (by kernel_rfl) (fun _ _ _ h => h) (Or.inl ⟨by rfl, ?_⟩) ?_ ?_
              rotate_left
              · intro w'
                go_simp
                with_reducible rfl
              rotate_left
              · simp only [Act.put, List.setIfInBounds_toArray, List.set_cons_zero, List.set_cons_succ, i64_w, i32_w]
                rfl
              refine pure_ (i := 2) (N := some 42) (v := ?_) (a' := ?_) #[true, true, true, false, false, false, false, false, false, false, false] rfl rfl (by kernel_rfl) (fun _ _ _ h => h) (Or.inl ⟨by rfl, ?_⟩) ?_ ?_
              rotate_left
              · intro w'
                go_simp
                with_reducible rfl
              rotate_left
              · simp only [Act.put, List.setIfInBounds_toArray, List.set_cons_zero, List.set_cons_succ, i64_w, i32_w]
                rfl
              refine pure_ (i := 3) (N := some 43) (v := ?_) (a' := ?_) #[true, true, true, true, false, false, false, false, false, false, false] rfl rfl (by kernel_rfl) (fun _ _ _ h => h) (Or.inl ⟨by rfl, ?_⟩) ?_ ?_
              rotate_left
              · intro w'
                go_simp
                with_reducible rfl
              rotate_left
              · simp only [Act.put, List.setIfInBounds_toArray, List.set_cons_zero, List.set_cons_succ, i64_w, i32_w]
                rfl
              refine pure_ (i := 4) (N := some 44) (v := ?_) (a' := ?_) #[true, true, true, true, true, false, false, false, false, false, false] rfl rfl (by kernel_rfl) (fun _ _ _ h => h) (Or.inl ⟨by rfl, ?_⟩) ?_ ?_
              rotate_left
              · intro w'
                go_simp
                with_reducible rfl
              rotate_left
              · simp only [Act.put, List.setIfInBounds_toArray, List.set_cons_zero, List.set_cons_succ, i64_w, i32_w]
                rfl
              refine take_ (i := 5) (N := some 45) (v := ?_) (a' := ?_) #[true, true, true, true, true, true, false, false, false, false, false] rfl rfl (by kernel_rfl) (fun _ _ _ h => h) (Or.inl ⟨by rfl, ?_⟩) hHeld ?_ ?_
              rotate_left
              · rintro w' ⟨s0, s1⟩
                go_simp
                with_reducible rfl
              rotate_left
              · simp only [Act.put, List.setIfInBounds_toArray, List.set_cons_zero, List.set_cons_succ, i64_w, i32_w]
                rfl
              refine take_ (i := 6) (N := some 46) (v := ?_) (a' := ?_) #[true, true, true, true, true, true, true, false, false, false, false] rfl rfl (by kernel_rfl) (fun _ _ _ h => h) (Or.inl ⟨by rfl, ?_⟩) hHeld ?_ ?_
              rotate_left
              · rintro w' ⟨s0, s1⟩
                go_simp
                with_reducible rfl
              rotate_left
              · simp only [Act.put, List.setIfInBounds_toArray, List.set_cons_zero, List.set_cons_succ, i64_w, i32_w]
                rfl
              have HBd := Aside0.mk (below_drew1 HBa.out)
              have HRTd := Aside0.mk (Kd.R_drew HRT.out)
              have HHd := Aside0.mk (Kd.H_drew HHH.out)
              have HGd := Aside0.mk (blk_drew HGa.out)
              have HVd := Aside0.mk (show wA.drew.cell? ⟨go, t, none⟩ = some vt from HVT.out)
              have HFd := Aside0.mk (show wA.drew.frozen? ⟨go, t, none⟩ = false from HFZ.out)
              have HSd := Aside0.mk (show wA.drew.heap.size = wA.heap.size from rfl)
              generalize wA.drew = wB at HBd HRTd HHd HGd HVd HFd HSd hHeld ⊢
              clear HRT HHH HGa HVT HFZ HBa
              refine one_ (i := 7) (N := some 47) #[true, true, true, true, true, true, true, true, false, false, false] rfl rfl (by kernel_rfl) (by decide) (fun K hK => ?_)
              refine event_step (by rfl) (v := .slice (some ⟨wB.heap.size, 0, none⟩) 1 1) (w1 := wB.alloc (.cells #[.int .i64 y] 3 (0, 0))) (by go_simp) ?_
              refine hK.out _ _ ⟨(Below.cell (below_alloc (Below.refl _ _) _) (p := ⟨go, t, none⟩) (by rw [HSd.out]; exact HGO.out)).trans HVd.out, (Below.cell (below_alloc (Below.refl _ _) _) (p := ⟨gr, 0, none⟩) (by rw [HSd.out]; exact HGR.out)).trans ((blk_cell HGd.out 0).trans rfl)⟩ (fun hHeld => ?_)
              clear hK K
              refine norm_ (a' := ?_) ?_ ?_
              rotate_left
              · show Act.put _ (some 47) _ = _
                simp only [Act.put, List.setIfInBounds_toArray, List.set_cons_zero, List.set_cons_succ, i64_w, i32_w]
                rfl
              refine one_ (i := 8) (N := some 48) #[true, true, true, true, true, true, true, true, true, false, false] rfl rfl (by kernel_rfl) (by decide) (fun K hK => ?_)
              refine Kd.R_append_step (Kd.int .i64) (w0 := w) w.heap.size (by rfl) (.tmp 45) (.tmp 47) 31 3 (.int .i64 0) 8 rfl Tryz.underlying31 info3 rfl (by decide) (by omega) vt X y [.int .i64 y] (fun k_ => oki k_ ∨ wA.heap.size ≤ k_) (fun _ => False) rfl rfl rfl (fun _ hk => hk.elim) (fun k_ hk => Or.inr (by rw [← HSd.out]; exact hk)) HRTd.out HBd.out HBd.out.size (by have := HXL.out; have := HIL.out; have := HN.out; omega) ?_
              intro v1_ w1 ho hb hg hat
              obtain ⟨Av, cv, ev⟩ := Kd.R_slice ho
              subst ev
              have hng : ∀ k_, vt.ownBlock = some k_ → k_ ≠ go ∧ k_ ≠ gr := fun k_ e_ => ⟨HGG3.out k_ (HRB.out k_ e_), HGG2.out k_ (HRB.out k_ e_)⟩
              have HR1 := Aside0.mk ho
              have HB1 := Aside0.mk hb
              have HH1 := Aside0.mk (Kd.H_grown HHd.out hg (fun k_ e_ => HRB.out k_ e_))
              have HG1 := Aside0.mk (blk_grown HGd.out hg (fun e_ => (hng gr e_.symm).2 rfl))
              have HV1 := Aside0.mk (show w1.cell? ⟨go, t, none⟩ = some vt by
                have h1 := hg.block go (by rw [HSd.out]; exact HGO.out) (fun e_ => (hng go e_.symm).1 rfl)
                exact (cellH h1).trans HVd.out)
              have HF1 := Aside0.mk (show w1.frozen? ⟨go, t, none⟩ = false by
                have h1 := hg.block go (by rw [HSd.out]; exact HGO.out) (fun e_ => (hng go e_.symm).1 rfl)
                exact (frozenH h1).trans HFd.out)
              clear HRTd HBd HHd HGd HVd HFd ho hb hg hat hng
              refine hK.out _ _ ⟨HV1.out, (blk_cell HG1.out 0).trans rfl⟩ (fun hHeld => ?_)
              clear hK K
              refine norm_ (a' := ?_) ?_ ?_
              rotate_left
              · show Act.put _ (some 48) _ = _
                simp only [Act.put, List.setIfInBounds_toArray, List.set_cons_zero, List.set_cons_succ, i64_w, i32_w]
                rfl
              refine pure_ (i := 9) (N := some 49) (v := ?_) (a' := ?_) #[true, true, true, true, true, true, true, true, true, true, false] rfl rfl (by kernel_rfl) (fun _ _ _ h => h) (Or.inl ⟨by rfl, ?_⟩) ?_ ?_
              rotate_left
              · intro w'
                go_simp
                with_reducible rfl
              rotate_left
              · simp only [Act.put, List.setIfInBounds_toArray, List.set_cons_zero, List.set_cons_succ, i64_w, i32_w]
                rfl
              have hcv := HV1.out
              have hcf := HF1.out
              refine last_ (i := 10) (N := none) #[true, true, true, true, true, true, true, true, true, true, true] rfl rfl (by kernel_rfl) (by decide) (fun K hK => ?_)
              refine skip_stepL (by rfl) rfl (w1 := w1.setCell ⟨go, t, none⟩ (.slice Av (X ++ [y]).length cv)) (by go_simp) ?_
              obtain ⟨hS2, hg2⟩ := Kd.S_seg (okg := fun k_ => wA.heap.size ≤ k_) (okp := fun k_ => oki k_ ∨ wA.heap.size ≤ k_) (ok := fun k_ => k_ ≠ gr) (seg := [(.slice Av (X ++ [y]).length cv)]) (j := 0) (x' := X ++ [y]) HH1.out (by omega) (by have := HTL.out; omega) (by simp [Kd.slice]) ⟨.slice Av (X ++ [y]).length cv, by simp [Kd.slice], HR1.out⟩ (fun k_ h_ => h_) (fun k_ h_ => ⟨by have := HGR.out; omega, by have := HGO.out; omega⟩)
              have HS2 := Aside0.mk (show Kd.S (Kd.slice 3 (Kd.int .i64)) 31 (w1.setCell ⟨go, t, none⟩ (.slice Av (X ++ [y]).length cv)) w.heap.size (fun k_ => k_ ≠ gr) (.slice (some ⟨go, 0, none⟩) O2.length cap) (O2.set t (X ++ [y])) by
                have h1 := hS2
                rw [show ((t : Int)).toNat = t from rfl] at h1
                simpa [Kd.slice, World.setCells] using h1)
              have HB2 := Aside0.mk (below_set (j := t) (v := .slice Av (X ++ [y]).length cv) HB1.out (Kd.S_base HS2.out go (by simp [Value.ownBlock])))
              clear hS2 hg2 hcv hcf HR1 HB1 HH1 HV1 HF1
              refine hK.out _ _ ?_
              clear hK K hHeld
              refine done_ (by kernel_rfl) ?_
              generalize w1.setCell ⟨go, t, none⟩ (.slice Av (X ++ [y]).length cv) = w8 at HS2 HB2 ⊢
              have hput : lvPut out y = O2.set t (X ++ [y]) := by
                have hat := HAT.out
                have hx := HX.out
                unfold lvPut
                rw [hat, if_pos HEQ.out, hx, HO2.out, HEQ.out, List.getD_eq_getElem?_getD, List.getElem?_append_right (Nat.le_refl _), List.set_append_right _ _ (Nat.le_refl _), Nat.sub_self]; rfl
              have HLO3 := Aside0.mk (show lvPuts (O2.set t (X ++ [y])) (l0_1.drop (i + 1)) = LO by rw [← hput]; exact HLO2.out)
              clear hput
              go_wp2
              go_roundg d
              case measure => have := HGG.out; omega
              case rel => exact ⟨d, i + 1, _, Nat.le_refl _, by have := HID.out; omega, by rw [← HWI.out], HLO3, ⟨by rw [List.length_set]; have := HL.out; have := HTL.out; first | omega | (have := HO2L.out; omega)⟩, ⟨LvB.set HLBO.out (by have := HXL.out; rw [List.length_append]; simp; omega)⟩, ⟨Kd.S_mono HS2.out (fun _ _ => trivial)⟩, HB2⟩
            · clear htl2
              have HEQ := Lib.hid hE
              have e1 : (t == out.length) = false := by simp [hE]
              have e2 : ((t : Int) == (out.length : Int)) = false := by
                have : ¬ (t : Int) = (out.length : Int) := by omega
                simp [this]
              have HTL := Lib.hid (show t < out.length by omega)
              have HLBO := HLB
              clear hE
              go_wp2_with (first | (go_at_call 61; refine (HCON.out).mono ?_; rintro e w' ⟨rfl, ⟨q2, rfl⟩⟩; have n0_ := Aside0.mk (Kd.S_drewN HOa.out q2); have n1_ := Aside0.mk (pw_below_drewN HBa.out q2); have n2_ := Aside0.mk (blk_drewN HGa.out q2); clear HOa HBa HGa; have HOa := n0_; have HBa := n1_; have HGa := n2_; clear n0_ n1_ n2_))
              obtain ⟨go, rfl⟩ : ∃ x, x = go0 := ⟨_, rfl⟩
              obtain ⟨cap, rfl⟩ : ∃ x, x = cap0 := ⟨_, rfl⟩
              generalize (wz.drewN q2) = wA at HOa HBa HGa ⊢
              have htl : t < out.length := HTL.out
              have hOb := Kd.S_mono (Kd.S_bound HOa.out) (fun k_ h_ => (⟨h_.1, Nat.not_le.2 h_.2.2.1⟩ : k_ ≠ gr ∧ ¬ (wA.heap.size ≤ k_)))
              obtain ⟨oki, c, hcl, hM, hcc, hfr, hoki, hH⟩ := Kd.S_elem hOb [] (t : Int) (by omega) (by omega)
              obtain ⟨vt, rfl, hRt⟩ := hM
              have hvt : wA.cell? ⟨go, t, none⟩ = some vt := by have h1 := hcc 0 vt rfl; rw [show ((t : Int)).toNat = t from rfl] at h1; simpa [Kd.slice] using h1
              have hfz : wA.frozen? ⟨go, t, none⟩ = false := by have h1 := hfr 0; rw [show ((t : Int)).toNat = t from rfl] at h1; simpa [Kd.slice] using h1
              have hgo : go < wA.heap.size := (Kd.S_lt HOa.out) go (by simp [Value.ownBlock])
              have hgr : gr < wA.heap.size := blk_lt HGa.out
              have hogr : ∀ k_, oki k_ → k_ ≠ gr := fun k_ h_ => (hoki k_ h_).1.1
              have hogo : ∀ k_, oki k_ → k_ ≠ go := fun k_ h_ => (hoki k_ h_).2
              obtain ⟨X, hX⟩ : ∃ X, X = out.getD t [] := ⟨_, rfl⟩
              rw [show ((t : Int)).toNat = t from rfl, ← hX] at hRt
              have HRT := Aside0.mk (Kd.R_mono hRt (fun k_ h_ => (Or.inl h_ : oki k_ ∨ wA.heap.size ≤ k_)))
              have HRB := Aside0.mk hRt.1
              have HHH := Aside0.mk hH
              have HVT := Aside0.mk hvt
              have HFZ := Aside0.mk hfz
              have HGO := Lib.hid hgo
              have HGR := Lib.hid hgr
              have HGG2 := Aside0.mk hogr
              have HGG3 := Aside0.mk hogo
              have HX := Aside0.mk hX
              have p3 : 0 ≤ ((t : Nat) : Int) := by omega
              have q3 : ((t : Nat) : Int) < ((out.length : Nat) : Int) := by omega
              replace p3 := eq_true p3
              replace q3 := eq_true q3
              clear hOb hcl hcc hfr hoki hH hvt hfz hgo hgr hogr hogo hX hRt htl HOa
              have HXL := Lib.hid (show X.length ≤ i by rw [HX.out]; exact LvB.getD HLBO.out t)
              refine start_ (n := 11) (S := fun w' => w'.cell? ⟨go, t, none⟩ = some vt ∧ w'.cell? ⟨gr, 0, none⟩ = some (.int .i64 y)) (ds := [10]) #[false, false, false, false, false, false, false, false, false, false, false] (by kernel_rfl) rfl rfl ⟨HVT.out, (blk_cell HGa.out 0).trans rfl⟩ (fun hHeld => ?_)
              refine pure_ (i := 0) (N := some 40) (v := ?_) (a' := ?_) #[true, false, false, false, false, false, false, false, false, false, false] rfl rfl (by kernel_rfl) (fun _ _ _ h => h) (Or.inl ⟨by rfl, ?_⟩) ?_ ?_
              rotate_left
              · intro w'
                go_simp
                with_reducible rfl
              rotate_left
              · simp only [Act.put, List.setIfInBounds_toArray, List.set_cons_zero, List.set_cons_succ, i64_w, i32_w]
                rfl
              refine pure_ (i := 1) (N := some 41) (v := ?_) (a' := ?_) #[true, true, false, false, false, false, false, false, false, false, false] rfl rfl (by kernel_rfl) (fun _ _ _ h => h) (Or.inl ⟨by rfl, ?_⟩) ?_ ?_
              rotate_left
              · intro w'
                go_simp
                with_reducible rfl
              rotate_left
              · simp only [Act.put, List.setIfInBounds_toArray, List.set_cons_zero, List.set_cons_succ, i64_w, i32_w]
                rfl
              refine pure_ (i := 2) (N := some 42) (v := ?_) (a' := ?_) #[true, true, true, false, false, false, false, false, false, false, false] rfl rfl (by kernel_rfl) (fun _ _ _ h => h) (Or.inl ⟨by rfl, ?_⟩) ?_ ?_
              rotate_left
              · intro w'
                go_simp
                with_reducible rfl
              rotate_left
              · simp only [Act.put, List.setIfInBounds_toArray, List.set_cons_zero, List.set_cons_succ, i64_w, i32_w]
                rfl
              refine pure_ (i := 3) (N := some 43) (v := ?_) (a' := ?_) #[true, true, true, true, false, false, false, false, false, false, false] rfl rfl (by kernel_rfl) (fun _ _ _ h => h) (Or.inl ⟨by rfl, ?_⟩) ?_ ?_
              rotate_left
              · intro w'
                go_simp
                with_reducible rfl
              rotate_left
              · simp only [Act.put, List.setIfInBounds_toArray, List.set_cons_zero, List.set_cons_succ, i64_w, i32_w]
                rfl
              refine pure_ (i := 4) (N := some 44) (v := ?_) (a' := ?_) #[true, true, true, true, true, false, false, false, false, false, false] rfl rfl (by kernel_rfl) (fun _ _ _ h => h) (Or.inl ⟨by rfl, ?_⟩) ?_ ?_
              rotate_left
              · intro w'
                go_simp
                with_reducible rfl
              rotate_left
              · simp only [Act.put, List.setIfInBounds_toArray, List.set_cons_zero, List.set_cons_succ, i64_w, i32_w]
                rfl
              refine take_ (i := 5) (N := some 45) (v := ?_) (a' := ?_) #[true, true, true, true, true, true, false, false, false, false, false] rfl rfl (by kernel_rfl) (fun _ _ _ h => h) (Or.inl ⟨by rfl, ?_⟩) hHeld ?_ ?_
              rotate_left
              · rintro w' ⟨s0, s1⟩
                go_simp
                with_reducible rfl
              rotate_left
              · simp only [Act.put, List.setIfInBounds_toArray, List.set_cons_zero, List.set_cons_succ, i64_w, i32_w]
                rfl
              refine take_ (i := 6) (N := some 46) (v := ?_) (a' := ?_) #[true, true, true, true, true, true, true, false, false, false, false] rfl rfl (by kernel_rfl) (fun _ _ _ h => h) (Or.inl ⟨by rfl, ?_⟩) hHeld ?_ ?_
              rotate_left
              · rintro w' ⟨s0, s1⟩
                go_simp
                with_reducible rfl
              rotate_left
              · simp only [Act.put, List.setIfInBounds_toArray, List.set_cons_zero, List.set_cons_succ, i64_w, i32_w]
                rfl
              have HBd := Aside0.mk (below_drew1 HBa.out)
              have HRTd := Aside0.mk (Kd.R_drew HRT.out)
              have HHd := Aside0.mk (Kd.H_drew HHH.out)
              have HGd := Aside0.mk (blk_drew HGa.out)
              have HVd := Aside0.mk (show wA.drew.cell? ⟨go, t, none⟩ = some vt from HVT.out)
              have HFd := Aside0.mk (show wA.drew.frozen? ⟨go, t, none⟩ = false from HFZ.out)
              have HSd := Aside0.mk (show wA.drew.heap.size = wA.heap.size from rfl)
              generalize wA.drew = wB at HBd HRTd HHd HGd HVd HFd HSd hHeld ⊢
              clear HRT HHH HGa HVT HFZ HBa
              refine one_ (i := 7) (N := some 47) #[true, true, true, true, true, true, true, true, false, false, false] rfl rfl (by kernel_rfl) (by decide) (fun K hK => ?_)
              refine event_step (by rfl) (v := .slice (some ⟨wB.heap.size, 0, none⟩) 1 1) (w1 := wB.alloc (.cells #[.int .i64 y] 3 (0, 0))) (by go_simp) ?_
              refine hK.out _ _ ⟨(Below.cell (below_alloc (Below.refl _ _) _) (p := ⟨go, t, none⟩) (by rw [HSd.out]; exact HGO.out)).trans HVd.out, (Below.cell (below_alloc (Below.refl _ _) _) (p := ⟨gr, 0, none⟩) (by rw [HSd.out]; exact HGR.out)).trans ((blk_cell HGd.out 0).trans rfl)⟩ (fun hHeld => ?_)
              clear hK K
              refine norm_ (a' := ?_) ?_ ?_
              rotate_left
              · show Act.put _ (some 47) _ = _
                simp only [Act.put, List.setIfInBounds_toArray, List.set_cons_zero, List.set_cons_succ, i64_w, i32_w]
                rfl
              refine one_ (i := 8) (N := some 48) #[true, true, true, true, true, true, true, true, true, false, false] rfl rfl (by kernel_rfl) (by decide) (fun K hK => ?_)
              refine Kd.R_append_step (Kd.int .i64) (w0 := w) w.heap.size (by rfl) (.tmp 45) (.tmp 47) 31 3 (.int .i64 0) 8 rfl Tryz.underlying31 info3 rfl (by decide) (by omega) vt X y [.int .i64 y] (fun k_ => oki k_ ∨ wA.heap.size ≤ k_) (fun _ => False) rfl rfl rfl (fun _ hk => hk.elim) (fun k_ hk => Or.inr (by rw [← HSd.out]; exact hk)) HRTd.out HBd.out HBd.out.size (by have := HXL.out; have := HIL.out; have := HN.out; omega) ?_
              intro v1_ w1 ho hb hg hat
              obtain ⟨Av, cv, ev⟩ := Kd.R_slice ho
              subst ev
              have hng : ∀ k_, vt.ownBlock = some k_ → k_ ≠ go ∧ k_ ≠ gr := fun k_ e_ => ⟨HGG3.out k_ (HRB.out k_ e_), HGG2.out k_ (HRB.out k_ e_)⟩
              have HR1 := Aside0.mk ho
              have HB1 := Aside0.mk hb
              have HH1 := Aside0.mk (Kd.H_grown HHd.out hg (fun k_ e_ => HRB.out k_ e_))
              have HG1 := Aside0.mk (blk_grown HGd.out hg (fun e_ => (hng gr e_.symm).2 rfl))
              have HV1 := Aside0.mk (show w1.cell? ⟨go, t, none⟩ = some vt by
                have h1 := hg.block go (by rw [HSd.out]; exact HGO.out) (fun e_ => (hng go e_.symm).1 rfl)
                exact (cellH h1).trans HVd.out)
              have HF1 := Aside0.mk (show w1.frozen? ⟨go, t, none⟩ = false by
                have h1 := hg.block go (by rw [HSd.out]; exact HGO.out) (fun e_ => (hng go e_.symm).1 rfl)
                exact (frozenH h1).trans HFd.out)
              clear HRTd HBd HHd HGd HVd HFd ho hb hg hat hng
              refine hK.out _ _ ⟨HV1.out, (blk_cell HG1.out 0).trans rfl⟩ (fun hHeld => ?_)
              clear hK K
              refine norm_ (a' := ?_) ?_ ?_
              rotate_left
              · show Act.put _ (some 48) _ = _
                simp only [Act.put, List.setIfInBounds_toArray, List.set_cons_zero, List.set_cons_succ, i64_w, i32_w]
                rfl
              refine pure_ (i := 9) (N := some 49) (v := ?_) (a' := ?_) #[true, true, true, true, true, true, true, true, true, true, false] rfl rfl (by kernel_rfl) (fun _ _ _ h => h) (Or.inl ⟨by rfl, ?_⟩) ?_ ?_
              rotate_left
              · intro w'
                go_simp
                with_reducible rfl
              rotate_left
              · simp only [Act.put, List.setIfInBounds_toArray, List.set_cons_zero, List.set_cons_succ, i64_w, i32_w]
                rfl
              have hcv := HV1.out
              have hcf := HF1.out
              refine last_ (i := 10) (N := none) #[true, true, true, true, true, true, true, true, true, true, true] rfl rfl (by kernel_rfl) (by decide) (fun K hK => ?_)
              refine skip_stepL (by rfl) rfl (w1 := w1.setCell ⟨go, t, none⟩ (.slice Av (X ++ [y]).length cv)) (by go_simp) ?_
              obtain ⟨hS2, hg2⟩ := Kd.S_seg (okg := fun k_ => wA.heap.size ≤ k_) (okp := fun k_ => oki k_ ∨ wA.heap.size ≤ k_) (ok := fun k_ => k_ ≠ gr) (seg := [(.slice Av (X ++ [y]).length cv)]) (j := 0) (x' := X ++ [y]) HH1.out (by omega) (by have := HTL.out; omega) (by simp [Kd.slice]) ⟨.slice Av (X ++ [y]).length cv, by simp [Kd.slice], HR1.out⟩ (fun k_ h_ => h_) (fun k_ h_ => ⟨by have := HGR.out; omega, by have := HGO.out; omega⟩)
              have HS2 := Aside0.mk (show Kd.S (Kd.slice 3 (Kd.int .i64)) 31 (w1.setCell ⟨go, t, none⟩ (.slice Av (X ++ [y]).length cv)) w.heap.size (fun k_ => k_ ≠ gr) (.slice (some ⟨go, 0, none⟩) out.length cap) (out.set t (X ++ [y])) by
                have h1 := hS2
                rw [show ((t : Int)).toNat = t from rfl] at h1
                simpa [Kd.slice, World.setCells] using h1)
              have HB2 := Aside0.mk (below_set (j := t) (v := .slice Av (X ++ [y]).length cv) HB1.out (Kd.S_base HS2.out go (by simp [Value.ownBlock])))
              clear hS2 hg2 hcv hcf HR1 HB1 HH1 HV1 HF1
              refine hK.out _ _ ?_
              clear hK K hHeld
              refine done_ (by kernel_rfl) ?_
              generalize w1.setCell ⟨go, t, none⟩ (.slice Av (X ++ [y]).length cv) = w8 at HS2 HB2 ⊢
              have hput : lvPut out y = out.set t (X ++ [y]) := by
                have hat := HAT.out
                have hx := HX.out
                unfold lvPut
                rw [hat, if_neg HEQ.out, hx]
              have HLO3 := Aside0.mk (show lvPuts (out.set t (X ++ [y])) (l0_1.drop (i + 1)) = LO by rw [← hput]; exact HLO2.out)
              clear hput
              go_wp2
              go_roundg d
              case measure => have := HGG.out; omega
              case rel => exact ⟨d, i + 1, _, Nat.le_refl _, by have := HID.out; omega, by rw [← HWI.out], HLO3, ⟨by rw [List.length_set]; have := HL.out; have := HTL.out; first | omega | (have := HO2L.out; omega)⟩, ⟨LvB.set HLBO.out (by have := HXL.out; rw [List.length_append]; simp; omega)⟩, ⟨Kd.S_mono HS2.out (fun _ _ => trivial)⟩, HB2⟩
          | false =>
            rw [hany] at HCON
            have HAA2 := Aside0.mk (show lvAt out y t1 = lvAt out y out.length by rw [← HAA.out, HT1.out, lvAt, if_neg (by rw [← HXJ.out, hany]; simp)])
            have HTG := Lib.hid hgt
            have HTE := Lib.hid htl
            clear hany HAA hgt htl
            go_wp2_with (first | (go_at_call 61; refine (HCON.out).mono ?_; rintro e w' ⟨rfl, ⟨q2, rfl⟩⟩))
            go_roundg t1
            case measure => have := HTG.out; have := HT1.out; omega
            case rel => exact ⟨t1, q + q2, by have := HTE.out; have := HT1.out; omega, Nat.le_refl _, by rw [ew], rfl, HAA2⟩


/-! ### impl_LevelsOf: function 55 -/
def impl_LevelsOf.f (k : Nat) (a0_0 : Int) (l0_1 : List Int) : Option ((List (List Int)) × Bool) := (impl_isLadder.f a0_0 l0_1).bind fun t594 => (if t594 = true then ((impl_levelsOf.f k a0_0 l0_1).bind fun t595 => (some (t595, true))) else (some (([] : List (List Int)), false)))
theorem impl_LevelsOf.mono : ∀ a0 a1 k, LeO (impl_LevelsOf.f k a0 a1) (impl_LevelsOf.f (k + 1) a0 a1) := by
 intro a0 a1 k
 unfold impl_LevelsOf.f
 repeat' first
  | (with_reducible exact impl_levelsOf.mono _ _ _)
  | (with_reducible exact LeO.refl _)
  | (with_reducible exact LeO.none _)
  | (with_reducible refine LeO.ite ?_ ?_)
  | (with_reducible refine LeO.bind ?_ (fun _ => ?_))
  | exact LeO.none _
  | refine LeO.ite ?_ ?_
  | refine LeO.bind ?_ (fun _ => ?_)
set_option maxHeartbeats 8000000 in
set_option maxRecDepth 100000 in
theorem impl_LevelsOf.calls (k : Nat) (a0_0 : Int) (A0_1 : Option Addr) (c0_1 : Nat) (l0_1 : List Int) (r1 : List (List Int)) (r2 : Bool) (w : World) (hr0_1 : Kd.C (Kd.int .i64) w A0_1 l0_1.length l0_1) (hc0_1 : l0_1.length ≤ c0_1) (h : impl_LevelsOf.f k a0_0 l0_1 = some (r1, r2)) :
 Calls Tryz.prog 55 #[.agg #[.int .i64 a0_0, .slice A0_1 l0_1.length c0_1]] w fun e w' => ∃ v0_ : Value, e = .returned (.tuple #[v0_, .bool r2]) ∧ Kd.S (Kd.slice 3 (Kd.int .i64)) 31 w' w.heap.size (fun _ => True) v0_ r1 ∧ Below w.heap.size w w' := by
 have hu38 := Tryz.underlying38
 have HR0_1 := a_ hr0_1
 have HC0_1 := a_ hc0_1
 clear hr0_1 hc0_1
 have HB := a_ (Below.refl w.heap.size w)
 have H : ((impl_isLadder.f a0_0 l0_1).bind fun t594 => (if t594 = true then ((impl_levelsOf.f k a0_0 l0_1).bind fun t595 => (some (t595, true))) else (some (([] : List (List Int)), false)))) = some (r1, r2) := h
 clear h
 obtain ⟨t594, A2, H⟩ := ob_ H
 (try dsimp only at H)
 by_cases c3 : t594 = true
 rotate_left
 ·replace c3 := Bool.eq_false_iff.mpr c3
  subst c3
  rw [if_neg (show ¬ (false = true) by decide)] at H
  simp only [Option.some.injEq, Prod.mk.injEq] at H
  obtain ⟨rfl, rfl⟩ := H
  go_enter Tryz.func55, Tryz.ntmps55
  go_wp2_with (first | ((with_reducible refine gate_dst (N := 1) rfl ?_); refine bx_ #[.int .i64 a0_0, .slice A0_1 l0_1.length c0_1] 38 ?_ 1; intro gb593 hg w10 hbox hb; have BK593 := a_ (hbox); have GW593 := gw_ HB hg; have GE593 := gw_ HB hg; replace HB := Bs_ HB hb; clear hb hbox hg; have hcz11_0 := cz_ (.int .i64 a0_0) BK593 0; have hcz11_1 := cz_ (.slice A0_1 l0_1.length c0_1) BK593 1; have hfz11_0 := fz_ BK593 0; have hfz11_1 := fz_ BK593 1) | ((with_reducible refine gate_callee (f := 44) rfl ?_); refine gm_ (some 5) Tryz.func44 #[.agg #[.int .i64 a0_0, .slice A0_1 l0_1.length c0_1]] rfl ?_; (with_reducible refine (impl_isLadder.calls a0_0 _ _ l0_1 false _ ?side1 ?side2 A2.out).mono ?_); (case side1 => exact Cl_ (Kd.C_below HR0_1.out HB.out)); (case side2 => exact HC0_1.out); rintro e w12 ⟨rfl, hb⟩; refine ⟨_, rfl, ?_⟩; replace BK593 := blkB_ BK593 hb; replace HB := Bs_ HB hb; (try clear hb); (try clear hb2); (try clear hk); (try clear hi)))
  go_ret2
  exact ⟨_, re_, by first | exact Kd.S_nil _ _ _ _ _ | exact Kd.N_nil _ _ _ _ _ | exact Kd.V_nil _ _ _ _ _ | exact Kd.Q_nil _ _ _ _ _ | exact Kd.R_nil _ _ _ _ _, Bl_ HB⟩
 subst c3
 rw [if_pos rfl] at H
 obtain ⟨t595, A4, H⟩ := ob_ H
 (try dsimp only at H)
 simp only [Option.some.injEq, Prod.mk.injEq] at H
 obtain ⟨rfl, rfl⟩ := H
 go_enter Tryz.func55, Tryz.ntmps55
 go_wp2_with (first | ((with_reducible refine gate_dst (N := 1) rfl ?_); refine bx_ #[.int .i64 a0_0, .slice A0_1 l0_1.length c0_1] 38 ?_ 1; intro gb593 hg w5 hbox hb; have BK593 := a_ (hbox); have GW593 := gw_ HB hg; have GE593 := gw_ HB hg; replace HB := Bs_ HB hb; clear hb hbox hg; have hcz6_0 := cz_ (.int .i64 a0_0) BK593 0; have hcz6_1 := cz_ (.slice A0_1 l0_1.length c0_1) BK593 1; have hfz6_0 := fz_ BK593 0; have hfz6_1 := fz_ BK593 1) | ((with_reducible refine gate_callee (f := 44) rfl ?_); refine gm_ (some 5) Tryz.func44 #[.agg #[.int .i64 a0_0, .slice A0_1 l0_1.length c0_1]] rfl ?_; (with_reducible refine (impl_isLadder.calls a0_0 _ _ l0_1 true _ ?side1 ?side2 A2.out).mono ?_); (case side1 => exact Cl_ (Kd.C_below HR0_1.out HB.out)); (case side2 => exact HC0_1.out); rintro e w7 ⟨rfl, hb⟩; refine ⟨_, rfl, ?_⟩; replace BK593 := blkB_ BK593 hb; replace HB := Bs_ HB hb; (try clear hb); (try clear hb2); (try clear hk); (try clear hi); have hcz8_0 := cz_ (.int .i64 a0_0) BK593 0; have hcz8_1 := cz_ (.slice A0_1 l0_1.length c0_1) BK593 1; have hfz8_0 := fz_ BK593 0; have hfz8_1 := fz_ BK593 1) | ((with_reducible refine gate_callee (f := 72) rfl ?_); refine gm_ (some 8) Tryz.func72 #[.agg #[.int .i64 a0_0, .slice A0_1 l0_1.length c0_1]] rfl ?_; (with_reducible refine (impl_levelsOf.calls k a0_0 _ _ l0_1 t595 _ ?side1 ?side2 A4.out).mono ?_); (case side1 => exact Cl_ (Kd.C_below HR0_1.out HB.out)); (case side2 => exact HC0_1.out); rintro e w9 ⟨v596, rfl, ho0, hb⟩; refine ⟨_, rfl, ?_⟩; have HO597 := a_ (Kd.S_lower ho0 (below_size (Bl_ HB))); replace BK593 := blkB_ BK593 hb; replace HB := Bs_ HB hb; (try clear hb); (try clear hb2); (try clear hk); (try clear hi); (try clear ho0)))
 go_ret2
 exact ⟨_, re_, by (with_reducible repeat (first | apply Kd.S_alloc | apply Kd.S_drewN | apply Kd.S_drew)); exact HO597.out, Bl_ HB⟩

/-! ### impl_DepthOf: function 30 -/
def impl_DepthOf.f (k : Nat) (a0_0 : Int) (l0_1 : List Int) : Option (Int × Bool) := (impl_LevelsOf.f k a0_0 l0_1).bind fun bt599 => (some ((bt599.1.length : Int), bt599.2))
theorem impl_DepthOf.mono : ∀ a0 a1 k, LeO (impl_DepthOf.f k a0 a1) (impl_DepthOf.f (k + 1) a0 a1) := by
 intro a0 a1 k
 unfold impl_DepthOf.f
 repeat' first
  | (with_reducible exact impl_LevelsOf.mono _ _ _)
  | (with_reducible exact LeO.refl _)
  | (with_reducible exact LeO.none _)
  | (with_reducible refine LeO.ite ?_ ?_)
  | (with_reducible refine LeO.bind ?_ (fun _ => ?_))
  | exact LeO.none _
  | refine LeO.ite ?_ ?_
  | refine LeO.bind ?_ (fun _ => ?_)
set_option maxHeartbeats 8000000 in
set_option maxRecDepth 100000 in
theorem impl_DepthOf.calls (k : Nat) (a0_0 : Int) (A0_1 : Option Addr) (c0_1 : Nat) (l0_1 : List Int) (r1 : Int) (r2 : Bool) (w : World) (hr0_1 : Kd.C (Kd.int .i64) w A0_1 l0_1.length l0_1) (hc0_1 : l0_1.length ≤ c0_1) (h : impl_DepthOf.f k a0_0 l0_1 = some (r1, r2)) :
 Calls Tryz.prog 30 #[.agg #[.int .i64 a0_0, .slice A0_1 l0_1.length c0_1]] w fun e w' => e = .returned (.tuple #[.int .i64 r1, .bool r2]) ∧ Below w.heap.size w w' := by
 have hu38 := Tryz.underlying38
 have HR0_1 := a_ hr0_1
 have HC0_1 := a_ hc0_1
 clear hr0_1 hc0_1
 have HB := a_ (Below.refl w.heap.size w)
 have H : ((impl_LevelsOf.f k a0_0 l0_1).bind fun bt599 => (some ((bt599.1.length : Int), bt599.2))) = some (r1, r2) := h
 clear h
 obtain ⟨⟨t599, t602⟩, A2, H⟩ := ob_ H
 (try dsimp only at H)
 simp only [Option.some.injEq, Prod.mk.injEq] at H
 obtain ⟨rfl, rfl⟩ := H
 go_enter Tryz.func30, Tryz.ntmps30
 go_wp2_with (first | ((with_reducible refine gate_dst (N := 1) rfl ?_); refine bx_ #[.int .i64 a0_0, .slice A0_1 l0_1.length c0_1] 38 ?_ 1; intro gb598 hg w3 hbox hb; have BK598 := a_ (hbox); have GW598 := gw_ HB hg; have GE598 := gw_ HB hg; replace HB := Bs_ HB hb; clear hb hbox hg; have hcz4_0 := cz_ (.int .i64 a0_0) BK598 0; have hcz4_1 := cz_ (.slice A0_1 l0_1.length c0_1) BK598 1; have hfz4_0 := fz_ BK598 0; have hfz4_1 := fz_ BK598 1) | ((with_reducible refine gate_callee (f := 55) rfl ?_); refine gm_ (some 8) Tryz.func55 #[.agg #[.int .i64 a0_0, .slice A0_1 l0_1.length c0_1]] rfl ?_; (with_reducible refine (impl_LevelsOf.calls k a0_0 _ _ l0_1 t599 t602 _ ?side1 ?side2 A2.out).mono ?_); (case side1 => exact Cl_ (Kd.C_below HR0_1.out HB.out)); (case side2 => exact HC0_1.out); rintro e w5 ⟨v600, rfl, ho0, hb⟩; refine ⟨_, rfl, ?_⟩; have HO601 := a_ (Kd.S_lower ho0 (below_size (Bl_ HB))); replace BK598 := blkB_ BK598 hb; replace HB := Bs_ HB hb; (try clear hb); (try clear hb2); (try clear hk); (try clear hi); (try clear ho0); obtain ⟨Ao6, co6, eo6⟩ := Kd.S_slice HO601.out; subst eo6))
 go_ret2
 exact ⟨re_, Bl_ HB⟩

/-! ### laws_FnBricksAndLevels: function 3 -/
mutual
def laws_FnBricksAndLevels.j1 : Nat → List Int → Option (Bool)
 | 0, _ => none
 | k + 1, x1 => (spec_DrawBrickLadder.f x1).bind fun bt628 => ((impl_BrickLadder.f k bt628.1 bt628.2).bind fun bt630 => ((spec_BrickLadder.f k bt628.1 bt628.2).bind fun bt636 => ((impl_BrickOrder.f k bt628.1 bt628.2).bind fun bt642 => ((spec_BrickOrder.f k bt628.1 bt628.2).bind fun bt646 => (if (bt630.2.2 != bt636.2.2) = true then (none) else ((laws_nLadder.f k bt630.1 bt630.2.1 bt636.1 bt636.2.1).bind fun t650 => (if t650 = true then (if (bt642.2 != bt646.2) = true then (none) else ((laws_nSame.f k bt642.1 bt646.1).bind fun t651 => (if t651 = true then (if (bt642.2 != bt630.2.2) = true then (none) else (if bt630.2.2 = true then ((impl_ResultOf.f k bt630.1 bt630.2.1).bind fun bt652 => (if bt652.2 = true then ((laws_nSame.f k bt652.1 bt642.1).bind fun t656 => (if t656 = true then (if bt628.2 = bt628.1 then (laws_FnBricksAndLevels.l1 k x1 bt628.1 bt642.1 (bt642.1.length : Int) 0) else (laws_FnBricksAndLevels.j3 k x1)) else (none))) else (none))) else (laws_FnBricksAndLevels.j3 k x1))) else (none)))) else (none))))))))
def laws_FnBricksAndLevels.j3 : Nat → List Int → Option (Bool)
 | 0, _ => none
 | k + 1, x1 => (spec_DrawCountDepths.f x1).bind fun t658 => ((impl_CountDepths.f k t658).bind fun bt659 => ((spec_CountDepths.f k t658).bind fun bt663 => ((spec_DrawLadderOfLevels.f k x1).bind fun bt667 => ((impl_LadderOfLevels.f k bt667.1 bt667.2).bind fun bt671 => ((spec_LadderOfLevels.f k bt667.1 bt667.2).bind fun bt677 => ((spec_DrawIsLevel.f k x1).bind fun bt683 => ((impl_IsLevel.f k bt683.1 bt683.2).bind fun bt687 => ((spec_IsLevel.f k bt683.1 bt683.2).bind fun bt689 => (if (bt659.2 != bt663.2) = true then (none) else ((laws_nSame.f k bt659.1 bt663.1).bind fun t691 => (if t691 = true then (if (bt671.2.2 != bt677.2.2) = true then (none) else ((laws_nLadder.f k bt671.1 bt671.2.1 bt677.1 bt677.2.1).bind fun t692 => (if t692 = true then (if (bt687.2 != bt689.2) = true then (none) else (if (bt687.1 != bt689.1) = true then (none) else (if bt659.2 = true then (laws_FnBricksAndLevels.l2 k t658 bt659.1 bt667.2 bt671.2.2 1 2 bt671.1 bt671.2.1) else (laws_FnBricksAndLevels.j5 k bt667.2 bt671.2.2 bt671.1 bt671.2.1)))) else (none)))) else (none))))))))))))
def laws_FnBricksAndLevels.j5 : Nat → List (List Int) → Bool → Int → List Int → Option (Bool)
 | 0, _, _, _, _ => none
 | k + 1, x42, x44, x677000, x677001 => if x44 = true then (laws_FnBricksAndLevels.l3 k x42 0 x42 (x42.length : Int) 0 x677000 x677001) else (some true)
def laws_FnBricksAndLevels.l3 : Nat → List (List Int) → Int → List (List Int) → Int → Int → Int → List Int → Option (Bool)
 | 0, _, _, _, _, _, _, _ => none
 | k + 1, x42, x57, x389, x390, x391, x677000, x677001 => if x391 < x390 then (if 0 ≤ x391 then (if x391 < (x389.length : Int) then (laws_FnBricksAndLevels.l3 k x42 (wrap64 (x57 + ((rd_L2 x389 x391).length : Int))) x389 x390 (wrap64 (x391 + 1)) x677000 x677001) else (none)) else (none)) else ((impl_DepthOf.f k x677000 x677001).bind fun bt699 => (if (x677001.length : Int) = x57 then (if bt699.2 = true then (some (decide (bt699.1 ≤ (x42.length : Int)))) else (none)) else (none)))
def laws_FnBricksAndLevels.l2 : Nat → Int → List Int → List (List Int) → Bool → Int → Int → Int → List Int → Option (Bool)
 | 0, _, _, _, _, _, _, _, _ => none
 | k + 1, x36, x37, x42, x44, x53, x54, x677000, x677001 => if x54 ≤ x36 then (laws_FnBricksAndLevels.l2 k x36 x37 x42 x44 (wrap64 (x53 * x54)) (wrap64 (x54 + 1)) x677000 x677001) else ((impl_CountLevels.f x36).bind fun bt693 => (if bt693.2 = true then ((laws_nSum.f k x37).bind fun t695 => (if t695 = x53 then (if 0 < (x37.length : Int) then (if (rd x37 0) = 1 then (if 1 < (x37.length : Int) then (if (rd x37 1) = (wrap64 (bt693.1 - 1)) then (if (x37.length : Int) > (wrap64 (x36 + 1)) then (none) else (laws_FnBricksAndLevels.j5 k x42 x44 x677000 x677001)) else (none)) else (none)) else (none)) else (none)) else (none))) else (none)))
def laws_FnBricksAndLevels.l1 : Nat → List Int → Int → List Int → Int → Int → Option (Bool)
 | 0, _, _, _, _, _ => none
 | k + 1, x1, x22, x255, x256, x257 => if x257 < x256 then (if 0 ≤ x257 then (if x257 < (x255.length : Int) then (if (rd x255 x257) = (wrap64 ((wrap64 (x22 - 1)) - x257)) then (laws_FnBricksAndLevels.l1 k x1 x22 x255 x256 (wrap64 (x257 + 1))) else (none)) else (none)) else (none)) else (laws_FnBricksAndLevels.j3 k x1)
def laws_FnBricksAndLevels.l0 : Nat → List Int → Int → List (List Int) → Int → List (List Int) → Int → Int → Option (Bool)
 | 0, _, _, _, _, _, _, _ => none
 | k + 1, x1, x5, x6, x10, x123, x124, x125 => if x125 < x124 then (if 0 ≤ x125 then (if x125 < (x123.length : Int) then ((impl_IsLevel.f k x5 (rd_L2 x123 x125)).bind fun bt620 => (if bt620.2 = true then (if bt620.1 = true then (if x125 > 0 then (if 0 ≤ (wrap64 (x125 - 1)) then (if (wrap64 (x125 - 1)) < (x6.length : Int) then ((laws_nLess.f k (rd_L2 x6 (wrap64 (x125 - 1))) (rd_L2 x123 x125)).bind fun t623 => (if t623 = true then (laws_FnBricksAndLevels.l0 k x1 x5 x6 x10 x123 x124 (wrap64 (x125 + 1))) else (none))) else (none)) else (none)) else (laws_FnBricksAndLevels.l0 k x1 x5 x6 x10 x123 x124 (wrap64 (x125 + 1)))) else (none)) else (none))) else (none)) else (none)) else (if x5 ≥ 4 then ((impl_CountLevels.f (wrap64 (x5 - 1))).bind fun bt624 => ((impl_CountLevels.f (wrap64 (x5 - 2))).bind fun bt626 => (if bt624.2 = true then (if bt626.2 = true then (if (wrap64 (bt624.1 + bt626.1)) = x10 then (laws_FnBricksAndLevels.j1 k x1) else (none)) else (none)) else (none)))) else (laws_FnBricksAndLevels.j1 k x1))
end
def laws_FnBricksAndLevels.f (k : Nat) (l0 : List Int) (l1 : List Int) : Option (Bool) := (laws_big.f l0 l1).bind fun t603 => (if t603 = true then (some true) else ((spec_DrawAllLevels.f l0).bind fun t604 => ((impl_AllLevels.f t604).bind fun bt605 => ((spec_AllLevels.f k t604).bind fun bt609 => ((impl_CountLevels.f t604).bind fun bt613 => ((spec_CountLevels.f k t604).bind fun bt615 => (if (bt605.2 != bt609.2) = true then (none) else ((laws_nRows.f k bt605.1 bt609.1).bind fun t617 => (if t617 = true then (if (bt613.2 != bt615.2) = true then (none) else (if bt613.1 = bt615.1 then (if (bt613.2 != bt605.2) = true then (none) else (if bt605.2 = true then (if (bt605.1.length : Int) = bt613.1 then (if 0 < (bt605.1.length : Int) then (if ((rd_L2 bt605.1 0).length : Int) = 0 then (laws_FnBricksAndLevels.l0 k l1 t604 bt605.1 bt613.1 bt605.1 (bt605.1.length : Int) 0) else (none)) else (none)) else (none)) else (laws_FnBricksAndLevels.j1 k l1))) else (none))) else (none))))))))))
theorem laws_FnBricksAndLevels.mono_l : ∀ k, (∀ y0, LeO (laws_FnBricksAndLevels.j1 k y0) (laws_FnBricksAndLevels.j1 (k + 1) y0)) ∧ (∀ y0, LeO (laws_FnBricksAndLevels.j3 k y0) (laws_FnBricksAndLevels.j3 (k + 1) y0)) ∧ (∀ y0 y1 y2 y3, LeO (laws_FnBricksAndLevels.j5 k y0 y1 y2 y3) (laws_FnBricksAndLevels.j5 (k + 1) y0 y1 y2 y3)) ∧ (∀ y0 y1 y2 y3 y4 y5 y6, LeO (laws_FnBricksAndLevels.l3 k y0 y1 y2 y3 y4 y5 y6) (laws_FnBricksAndLevels.l3 (k + 1) y0 y1 y2 y3 y4 y5 y6)) ∧ (∀ y0 y1 y2 y3 y4 y5 y6 y7, LeO (laws_FnBricksAndLevels.l2 k y0 y1 y2 y3 y4 y5 y6 y7) (laws_FnBricksAndLevels.l2 (k + 1) y0 y1 y2 y3 y4 y5 y6 y7)) ∧ (∀ y0 y1 y2 y3 y4, LeO (laws_FnBricksAndLevels.l1 k y0 y1 y2 y3 y4) (laws_FnBricksAndLevels.l1 (k + 1) y0 y1 y2 y3 y4)) ∧ (∀ y0 y1 y2 y3 y4 y5 y6, LeO (laws_FnBricksAndLevels.l0 k y0 y1 y2 y3 y4 y5 y6) (laws_FnBricksAndLevels.l0 (k + 1) y0 y1 y2 y3 y4 y5 y6))
 | 0 => ⟨fun _ r h => by simp [laws_FnBricksAndLevels.j1] at h, fun _ r h => by simp [laws_FnBricksAndLevels.j3] at h, fun _ _ _ _ r h => by simp [laws_FnBricksAndLevels.j5] at h, fun _ _ _ _ _ _ _ r h => by simp [laws_FnBricksAndLevels.l3] at h, fun _ _ _ _ _ _ _ _ r h => by simp [laws_FnBricksAndLevels.l2] at h, fun _ _ _ _ _ r h => by simp [laws_FnBricksAndLevels.l1] at h, fun _ _ _ _ _ _ _ r h => by simp [laws_FnBricksAndLevels.l0] at h⟩
 | k + 1 => by
  obtain ⟨ih0, ih1, ih2, ih3, ih4, ih5, ih6⟩ := laws_FnBricksAndLevels.mono_l k
  refine ⟨?_, ?_, ?_, ?_, ?_, ?_, ?_⟩
  ·intro y0
   unfold laws_FnBricksAndLevels.j1
   repeat' first
   | (with_reducible exact ih1 _)
   | (with_reducible exact ih5 _ _ _ _ _)
   | (with_reducible exact impl_BrickLadder.mono _ _ _)
   | (with_reducible exact impl_BrickOrder.mono _ _ _)
   | (with_reducible exact impl_ResultOf.mono _ _ _)
   | (with_reducible exact laws_nLadder.mono _ _ _ _ _)
   | (with_reducible exact laws_nSame.mono _ _ _)
   | (with_reducible exact spec_BrickLadder.mono _ _ _)
   | (with_reducible exact spec_BrickOrder.mono _ _ _)
   | (with_reducible exact LeO.refl _)
   | (with_reducible exact LeO.none _)
   | (with_reducible refine LeO.ite ?_ ?_)
   | (with_reducible refine LeO.bind ?_ (fun _ => ?_))
   | exact LeO.none _
   | refine LeO.ite ?_ ?_
   | refine LeO.bind ?_ (fun _ => ?_)
  ·intro y0
   unfold laws_FnBricksAndLevels.j3
   repeat' first
   | (with_reducible exact ih2 _ _ _ _)
   | (with_reducible exact ih4 _ _ _ _ _ _ _ _)
   | (with_reducible exact impl_CountDepths.mono _ _)
   | (with_reducible exact impl_IsLevel.mono _ _ _)
   | (with_reducible exact impl_LadderOfLevels.mono _ _ _)
   | (with_reducible exact laws_nLadder.mono _ _ _ _ _)
   | (with_reducible exact laws_nSame.mono _ _ _)
   | (with_reducible exact spec_CountDepths.mono _ _)
   | (with_reducible exact spec_DrawIsLevel.mono _ _)
   | (with_reducible exact spec_DrawLadderOfLevels.mono _ _)
   | (with_reducible exact spec_IsLevel.mono _ _ _)
   | (with_reducible exact spec_LadderOfLevels.mono _ _ _)
   | (with_reducible exact LeO.refl _)
   | (with_reducible exact LeO.none _)
   | (with_reducible refine LeO.ite ?_ ?_)
   | (with_reducible refine LeO.bind ?_ (fun _ => ?_))
   | exact LeO.none _
   | refine LeO.ite ?_ ?_
   | refine LeO.bind ?_ (fun _ => ?_)
  ·intro y0 y1 y2 y3
   unfold laws_FnBricksAndLevels.j5
   repeat' first
   | (with_reducible exact ih3 _ _ _ _ _ _ _)
   | (with_reducible exact LeO.refl _)
   | (with_reducible exact LeO.none _)
   | (with_reducible refine LeO.ite ?_ ?_)
   | (with_reducible refine LeO.bind ?_ (fun _ => ?_))
   | exact LeO.none _
   | refine LeO.ite ?_ ?_
   | refine LeO.bind ?_ (fun _ => ?_)
  ·intro y0 y1 y2 y3 y4 y5 y6
   unfold laws_FnBricksAndLevels.l3
   repeat' first
   | (with_reducible exact ih3 _ _ _ _ _ _ _)
   | (with_reducible exact impl_DepthOf.mono _ _ _)
   | (with_reducible exact LeO.refl _)
   | (with_reducible exact LeO.none _)
   | (with_reducible refine LeO.ite ?_ ?_)
   | (with_reducible refine LeO.bind ?_ (fun _ => ?_))
   | exact LeO.none _
   | refine LeO.ite ?_ ?_
   | refine LeO.bind ?_ (fun _ => ?_)
  ·intro y0 y1 y2 y3 y4 y5 y6 y7
   unfold laws_FnBricksAndLevels.l2
   repeat' first
   | (with_reducible exact ih2 _ _ _ _)
   | (with_reducible exact ih4 _ _ _ _ _ _ _ _)
   | (with_reducible exact laws_nSum.mono _ _)
   | (with_reducible exact LeO.refl _)
   | (with_reducible exact LeO.none _)
   | (with_reducible refine LeO.ite ?_ ?_)
   | (with_reducible refine LeO.bind ?_ (fun _ => ?_))
   | exact LeO.none _
   | refine LeO.ite ?_ ?_
   | refine LeO.bind ?_ (fun _ => ?_)
  ·intro y0 y1 y2 y3 y4
   unfold laws_FnBricksAndLevels.l1
   repeat' first
   | (with_reducible exact ih1 _)
   | (with_reducible exact ih5 _ _ _ _ _)
   | (with_reducible exact LeO.refl _)
   | (with_reducible exact LeO.none _)
   | (with_reducible refine LeO.ite ?_ ?_)
   | (with_reducible refine LeO.bind ?_ (fun _ => ?_))
   | exact LeO.none _
   | refine LeO.ite ?_ ?_
   | refine LeO.bind ?_ (fun _ => ?_)
  ·intro y0 y1 y2 y3 y4 y5 y6
   unfold laws_FnBricksAndLevels.l0
   repeat' first
   | (with_reducible exact ih0 _)
   | (with_reducible exact ih6 _ _ _ _ _ _ _)
   | (with_reducible exact impl_IsLevel.mono _ _ _)
   | (with_reducible exact laws_nLess.mono _ _ _)
   | (with_reducible exact LeO.refl _)
   | (with_reducible exact LeO.none _)
   | (with_reducible refine LeO.ite ?_ ?_)
   | (with_reducible refine LeO.bind ?_ (fun _ => ?_))
   | exact LeO.none _
   | refine LeO.ite ?_ ?_
   | refine LeO.bind ?_ (fun _ => ?_)
theorem laws_FnBricksAndLevels.mono : ∀ a0 a1 k, LeO (laws_FnBricksAndLevels.f k a0 a1) (laws_FnBricksAndLevels.f (k + 1) a0 a1) := by
 intro a0 a1 k
 obtain ⟨ih0, ih1, ih2, ih3, ih4, ih5, ih6⟩ := laws_FnBricksAndLevels.mono_l k
 unfold laws_FnBricksAndLevels.f
 repeat' first
  | (with_reducible exact ih0 _)
  | (with_reducible exact ih6 _ _ _ _ _ _ _)
  | (with_reducible exact laws_nRows.mono _ _ _)
  | (with_reducible exact spec_AllLevels.mono _ _)
  | (with_reducible exact spec_CountLevels.mono _ _)
  | (with_reducible exact LeO.refl _)
  | (with_reducible exact LeO.none _)
  | (with_reducible refine LeO.ite ?_ ?_)
  | (with_reducible refine LeO.bind ?_ (fun _ => ?_))
  | exact LeO.none _
  | refine LeO.ite ?_ ?_
  | refine LeO.bind ?_ (fun _ => ?_)
set_option maxHeartbeats 8000000 in
set_option maxRecDepth 100000 in
theorem laws_FnBricksAndLevels.calls (k : Nat) (A0 : Option Addr) (c0 : Nat) (l0 : List Int) (A1 : Option Addr) (c1 : Nat) (l1 : List Int) (r : Bool) (w : World) (hr0 : Kd.C (Kd.int .u8) w A0 l0.length l0) (hc0 : l0.length ≤ c0) (hr1 : Kd.C (Kd.int .u8) w A1 l1.length l1) (hc1 : l1.length ≤ c1) (h : laws_FnBricksAndLevels.f k l0 l1 = some r) :
 Calls Tryz.prog 3 #[.slice A0 l0.length c0, .slice A1 l1.length c1] w fun e w' => e = .returned (.bool r) ∧ Below w.heap.size w w' := by
 have hu38 := Tryz.underlying38
 have HR0 := a_ hr0
 have HC0 := a_ hc0
 clear hr0 hc0
 have HR1 := a_ hr1
 have HC1 := a_ hc1
 clear hr1 hc1
 have HB := a_ (Below.refl w.heap.size w)
 have H : ((laws_big.f l0 l1).bind fun t603 => (if t603 = true then (some true) else ((spec_DrawAllLevels.f l0).bind fun t604 => ((impl_AllLevels.f t604).bind fun bt605 => ((spec_AllLevels.f k t604).bind fun bt609 => ((impl_CountLevels.f t604).bind fun bt613 => ((spec_CountLevels.f k t604).bind fun bt615 => (if (bt605.2 != bt609.2) = true then (none) else ((laws_nRows.f k bt605.1 bt609.1).bind fun t617 => (if t617 = true then (if (bt613.2 != bt615.2) = true then (none) else (if bt613.1 = bt615.1 then (if (bt613.2 != bt605.2) = true then (none) else (if bt605.2 = true then (if (bt605.1.length : Int) = bt613.1 then (if 0 < (bt605.1.length : Int) then (if ((rd_L2 bt605.1 0).length : Int) = 0 then (laws_FnBricksAndLevels.l0 k l1 t604 bt605.1 bt613.1 bt605.1 (bt605.1.length : Int) 0) else (none)) else (none)) else (none)) else (laws_FnBricksAndLevels.j1 k l1))) else (none))) else (none))))))))))) = some r := h
 clear h
 obtain ⟨t603, A3, H⟩ := ob_ H
 (try dsimp only at H)
 by_cases c4 : t603 = true
 ·subst c4
  rw [if_pos rfl] at H
  obtain rfl := Option.some.inj H
  go_enter Tryz.func3, Tryz.ntmps3
  go_wp2_with (first | ((with_reducible refine gate_callee (f := 4) rfl ?_); refine gm_ (some 64) Tryz.func4 #[.slice A0 l0.length c0, .slice A1 l1.length c1] rfl ?_; (with_reducible refine (laws_big.calls _ _ l0 _ _ l1 true _ ?side1 ?side2 ?side3 ?side4 A3.out).mono ?_); (case side1 => repeat (first | exact HR0.out | (with_reducible refine Kd.C_alloc ?_ _) | (with_reducible refine Kd.C_drewN ?_ _) | (with_reducible refine Kd.C_drew ?_))); (case side2 => exact HC0.out); (case side3 => repeat (first | exact HR1.out | (with_reducible refine Kd.C_alloc ?_ _) | (with_reducible refine Kd.C_drewN ?_ _) | (with_reducible refine Kd.C_drew ?_))); (case side4 => exact HC1.out); rintro e w' ⟨rfl, ⟨nd, rfl⟩⟩; refine ⟨_, rfl, ?_⟩))
  go_ret
  exact ⟨re_, Bl_ HB⟩
 replace c4 := Bool.eq_false_iff.mpr c4
 subst c4
 rw [if_neg (show ¬ (false = true) by decide)] at H
 obtain ⟨t604, A5, H⟩ := ob_ H
 (try dsimp only at H)
 obtain ⟨⟨t605, t606⟩, A6, H⟩ := ob_ H
 (try dsimp only at H)
 obtain ⟨⟨t609, t610⟩, A7, H⟩ := ob_ H
 (try dsimp only at H)
 obtain ⟨⟨t613, t614⟩, A8, H⟩ := ob_ H
 (try dsimp only at H)
 obtain ⟨⟨t615, t616⟩, A9, H⟩ := ob_ H
 (try dsimp only at H)
 by_cases c10 : (t606 != t610) = true
 ·rw [if_pos c10] at H
  cases H
 rw [if_neg c10] at H
 have c10b0 : (t606 != t610) = false := by simpa using c10
 (try (have c10b1 : decide (t606 = t610) = true := by simpa using c10))
 (try (have c10b2 : (t606 == t610) = true := by simpa using c10))
 clear c10
 obtain ⟨t617, A11, H⟩ := ob_ H
 (try dsimp only at H)
 by_cases c12 : t617 = true
 rotate_left
 ·replace c12 := Bool.eq_false_iff.mpr c12
  subst c12
  rw [if_neg (show ¬ (false = true) by decide)] at H
  cases H
 subst c12
 rw [if_pos rfl] at H
 by_cases c13 : (t614 != t616) = true
 ·rw [if_pos c13] at H
  cases H
 rw [if_neg c13] at H
 have c13b0 : (t614 != t616) = false := by simpa using c13
 (try (have c13b1 : decide (t614 = t616) = true := by simpa using c13))
 (try (have c13b2 : (t614 == t616) = true := by simpa using c13))
 clear c13
 by_cases c14 : t613 = t615
 rotate_left
 ·rw [if_neg c14] at H
  cases H
 rw [if_pos c14] at H
 have c14b0 : (t613 == t615) = true := beq_iff_eq.mpr c14
 have c14b1 : (t613 != t615) = false := bne_eq_false_iff_eq.mpr c14
 clear c14
 by_cases c15 : (t614 != t606) = true
 ·rw [if_pos c15] at H
  cases H
 rw [if_neg c15] at H
 have c15b0 : (t614 != t606) = false := by simpa using c15
 (try (have c15b1 : decide (t614 = t606) = true := by simpa using c15))
 (try (have c15b2 : (t614 == t606) = true := by simpa using c15))
 clear c15
 have HC16 := a_ H
 clear H
 go_enter Tryz.func3, Tryz.ntmps3
 go_upto_if 111 with (first | ((with_reducible refine gate_callee (f := 4) rfl ?_); refine gm_ (some 64) Tryz.func4 #[.slice A0 l0.length c0, .slice A1 l1.length c1] rfl ?_; (with_reducible refine (laws_big.calls _ _ l0 _ _ l1 false _ ?side1 ?side2 ?side3 ?side4 A3.out).mono ?_); (case side1 => repeat (first | exact HR0.out | (with_reducible refine Kd.C_alloc ?_ _) | (with_reducible refine Kd.C_drewN ?_ _) | (with_reducible refine Kd.C_drew ?_))); (case side2 => exact HC0.out); (case side3 => repeat (first | exact HR1.out | (with_reducible refine Kd.C_alloc ?_ _) | (with_reducible refine Kd.C_drewN ?_ _) | (with_reducible refine Kd.C_drew ?_))); (case side4 => exact HC1.out); rintro e w' ⟨rfl, ⟨nd, rfl⟩⟩; refine ⟨_, rfl, ?_⟩) | ((with_reducible refine gate_callee (f := 5) rfl ?_); refine gm_ (some 66) Tryz.func5 #[.slice A0 l0.length c0] rfl ?_; (with_reducible refine (spec_DrawAllLevels.calls _ _ l0 t604 _ ?side1 ?side2 A5.out).mono ?_); (case side1 => repeat (first | exact HR0.out | (with_reducible refine Kd.C_alloc ?_ _) | (with_reducible refine Kd.C_drewN ?_ _) | (with_reducible refine Kd.C_drew ?_))); (case side2 => exact HC0.out); rintro e w17 ⟨rfl, hb⟩; refine ⟨_, rfl, ?_⟩; replace HB := Bs_ HB hb; (try clear hb); (try clear hb2); (try clear hk); (try clear hi)) | ((with_reducible refine gate_callee (f := 6) rfl ?_); refine gm_ (some 69) Tryz.func6 #[.int .i64 t604] rfl ?_; (with_reducible refine (impl_AllLevels.calls t604 t605 t606 _ A6.out).mono ?_); rintro e w18 ⟨v607, rfl, ho0, hb⟩; refine ⟨_, rfl, ?_⟩; have HO608 := a_ (Kd.S_lower ho0 (below_size (Bl_ HB))); replace HB := Bs_ HB hb; (try clear hb); (try clear hb2); (try clear hk); (try clear hi); (try clear ho0)) | ((with_reducible refine gate_callee (f := 7) rfl ?_); refine gm_ (some 74) Tryz.func7 #[.int .i64 t604] rfl ?_; (with_reducible refine (spec_AllLevels.calls k t604 t609 t610 _ A7.out).mono ?_); rintro e w19 ⟨v611, rfl, ho0, hb⟩; refine ⟨_, rfl, ?_⟩; have HO612 := a_ (Kd.S_lower (Kd.S_new' ho0 (Kd.S_lt (Sl_ HO608.out))) (below_size (Bl_ HB))); replace HO608 := a_ (Kd.S_elder' (Sl_ HO608.out) (Kd.S_base ho0) hb); replace HB := Bs_ HB hb; (try clear hb); (try clear hb2); (try clear hk); (try clear hi); (try clear ho0)) | ((with_reducible refine gate_callee (f := 8) rfl ?_); refine gm_ (some 79) Tryz.func8 #[.int .i64 t604] rfl ?_; (with_reducible refine (impl_CountLevels.calls t604 t613 t614 _ A8.out).mono ?_); rintro e w20 ⟨rfl, hb⟩; refine ⟨_, rfl, ?_⟩; replace HO608 := a_ (Kd.S_below (Sl_ HO608.out) hb); replace HO612 := a_ (Kd.S_below (Sl_ HO612.out) hb); replace HB := Bs_ HB hb; (try clear hb); (try clear hb2); (try clear hk); (try clear hi)) | ((with_reducible refine gate_callee (f := 9) rfl ?_); refine gm_ (some 84) Tryz.func9 #[.int .i64 t604] rfl ?_; (with_reducible refine (spec_CountLevels.calls k t604 t615 t616 _ A9.out).mono ?_); rintro e w21 ⟨rfl, hb⟩; refine ⟨_, rfl, ?_⟩; replace HO608 := a_ (Kd.S_below (Sl_ HO608.out) hb); replace HO612 := a_ (Kd.S_below (Sl_ HO612.out) hb); replace HB := Bs_ HB hb; (try clear hb); (try clear hb2); (try clear hk); (try clear hi); obtain ⟨Ao22, co22, eo22⟩ := Kd.S_slice HO608.out; subst eo22; obtain ⟨Ao23, co23, eo23⟩ := Kd.S_slice HO612.out; subst eo23) | (go_at_call 10; (with_reducible refine (laws_nRows.calls k _ _ t605 _ _ t609 true _ ?side1 ?side2 ?side3 ?side4 A11.out).mono ?_); (case side1 => repeat (first | exact (Kd.S_reads' HO608.out).2.2 | (with_reducible refine Kd.C_alloc ?_ _) | (with_reducible refine Kd.C_drewN ?_ _) | (with_reducible refine Kd.C_drew ?_))); (case side2 => exact (Kd.S_reads' HO608.out).2.1); (case side3 => repeat (first | exact (Kd.S_reads' HO612.out).2.2 | (with_reducible refine Kd.C_alloc ?_ _) | (with_reducible refine Kd.C_drewN ?_ _) | (with_reducible refine Kd.C_drew ?_))); (case side4 => exact (Kd.S_reads' HO612.out).2.1); rintro e w' ⟨rfl, ⟨nd, rfl⟩⟩))
 (try simp only [Act.put, List.setIfInBounds_toArray, List.set_cons_zero, List.set_cons_succ])
 as_aux_lemma =>
 go_cut [] (fun wc => ∃ (kq : Nat), Aside0 (laws_FnBricksAndLevels.j1 kq l1 = some r) ∧ Aside0 (kq ≤ k) ∧ Aside0 (Below w.heap.size w wc))
 case first =>
  as_aux_lemma =>
  have H := HC16.out
  clear HC16
  by_cases c24 : t606 = true
  rotate_left
  ·replace c24 := Bool.eq_false_iff.mpr c24
   subst c24
   rw [if_neg (show ¬ (false = true) by decide)] at H
   have H' := a_ H
   clear H
   go_wp2
   go_meet
   case rel => exact ⟨_, H', ⟨by first | omega | exact Nat.le_refl _⟩, ⟨Bl_ HB⟩⟩
  subst c24
  rw [if_pos rfl] at H
  by_cases c25 : (t605.length : Int) = t613
  rotate_left
  ·rw [if_neg c25] at H
   cases H
  rw [if_pos c25] at H
  have c25b0 : ((t605.length : Int) == t613) = true := beq_iff_eq.mpr c25
  have c25b1 : ((t605.length : Int) != t613) = false := bne_eq_false_iff_eq.mpr c25
  clear c25
  (first | rw [c25b0] | (simp only [i64_w, i32_w]; rw [c25b0]) | skip)
  by_cases c26 : 0 < (t605.length : Int)
  rotate_left
  ·rw [if_neg c26] at H
   cases H
  rw [if_pos c26] at H
  have c26b0 : decide (0 < (t605.length : Int)) = true := decide_eq_true c26
  have c26b1 : decide (0 < t605.length) = true := decide_eq_true (by omega)
  clear c26
  by_cases c27 : ((rd_L2 t605 0).length : Int) = 0
  rotate_left
  ·rw [if_neg c27] at H
   cases H
  rw [if_pos c27] at H
  have c27b0 : (((rd_L2 t605 0).length : Int) == 0) = true := beq_iff_eq.mpr c27
  have c27b1 : (((rd_L2 t605 0).length : Int) != 0) = false := bne_eq_false_iff_eq.mpr c27
  clear c27
  have H' := a_ H
  clear H
  have p618 : 0 ≤ (0 : Int) := (by omega)
  have q618 : 0 < (t605.length : Int) := od_
  obtain ⟨ad618, A618_0, c618_0, e618, hx618_0, hl618_0, hi618_0⟩ := at_L2 (Kd.S_reads' HO608.out).2.2 0 p618 q618
  cases e618
  obtain ⟨ce618, hce618, hMe618, hcc618⟩ := Kd.S_get HO608.out [] 0 p618 (by first | exact q618 | exact od_ | (have e_ := (Kd.S_reads' HO608.out).1; omega))
  obtain ⟨ve618_0, rfl, ge618_0⟩ := hMe618
  have hv618_0 := hcc618 0 _ rfl
  rw [Nat.add_zero, show ((Kd.slice 3 (Kd.int .i64))).sz = 1 from rfl, Nat.mul_one] at hv618_0
  replace hv618_0 := Option.some.inj (hv618_0.symm.trans hx618_0)
  rw [hv618_0] at ge618_0
  have HL618_0 := a_ (show Kd.R (Kd.int .i64) 3 _ _ _ _ (rd_L2 t605 0) from ge618_0)
  clear hv618_0 ge618_0
  clear hcc618 hce618
  have qi618 : (0 < t605.length) = True := eq_true (by omega)
  (try rw [show ((0 : Int)).toNat = 0 from rfl] at hx618_0)
  (try rw [Addr.add_zero'] at hx618_0)
  have HR618_0 := a_ hi618_0
  have HC618_0 := a_ hl618_0
  clear hi618_0 hl618_0
  replace p618 := eq_true p618
  replace q618 := eq_true q618
  go_wp2
  go_loopg [125] k (fun kq v125 w' => ∃ (x125_1 : Int), v125 = .int .i64 x125_1 ∧ Aside0 (laws_FnBricksAndLevels.l0 kq l1 t604 t605 t613 t605 (t605.length : Int) x125_1 = some r) ∧ Aside0 (kq ≤ k) ∧ Aside0 (Kd.S (Kd.slice 3 (Kd.int .i64)) 31 w' w.heap.size (fun _ => True) (.slice (some ad618) t605.length co22) t605) ∧ Aside0 (Kd.S (Kd.slice 3 (Kd.int .i64)) 31 w' w.heap.size (fun _ => True) (.slice (some ad618) t605.length co22) t605) ∧ Aside0 (Kd.C (Kd.int .i64) w' A618_0 (rd_L2 t605 0).length (rd_L2 t605 0)) ∧ Aside0 (Below w.heap.size w w'))
  case atStart => exact ⟨(0), rs_, H', ⟨Nat.le_refl _⟩, ⟨Sl_ (Kd.S_mono HO608.out (fun _ hk => trivial))⟩, ⟨Sl_ (Kd.S_mono HO608.out (fun _ hk => trivial))⟩, ⟨by repeat (first | (with_reducible exact HR618_0.out) | (with_reducible refine Kd.C_alloc ?_ _) | (with_reducible refine Kd.C_drewN ?_ _) | (with_reducible refine Kd.C_drew ?_) | exact HR618_0.out)⟩, ⟨Bl_ HB⟩⟩
  case round =>
   as_aux_lemma =>
   clear H'
   try clear c1
   try clear c2
   try clear p2
   try clear c3
   try clear c4
   try clear c5
   try clear c6
   try clear p6
   try clear q6
   try clear hx6
   try clear qi6
   try clear c7
   try clear c8
   try clear c9
   try clear c10
   try clear c10b0
   try clear c10b1
   try clear c10b2
   try clear c12
   try clear c13
   try clear c13b0
   try clear c13b1
   try clear c13b2
   try clear c14
   try clear c14b0
   try clear c14b1
   try clear c15
   try clear c15b0
   try clear c15b1
   try clear c15b2
   try clear c24
   try clear c25
   try clear c25b0
   try clear c25b1
   try clear c26
   try clear c26b0
   try clear c26b1
   try clear c27
   try clear c27b0
   try clear c27b1
   try clear hx618_0
   try clear p618
   try clear q618
   obtain ⟨x125_1, rfl, HA, HK1, HO_6, HO_123, HR618_0, HB⟩ := hrel
   cases gk with
   | zero => exact absurd HA.out (by simp [laws_FnBricksAndLevels.l0])
   | succ k1 =>
    have H := HA.out
    clear HA
    simp only [laws_FnBricksAndLevels.l0] at H
    by_cases c28 : x125_1 < (t605.length : Int)
    rotate_left
    ·rw [if_neg c28] at H
     have c28b0 : decide (x125_1 < (t605.length : Int)) = false := decide_eq_false c28
     clear c28
     by_cases c40 : t604 ≥ 4
     rotate_left
     ·rw [if_neg c40] at H
      have c40b0 : decide (4 ≤ t604) = false := decide_eq_false c40
      clear c40
      have H' := a_ H
      clear H
      go_wp2
      go_meet
      case rel => exact ⟨_, H', ⟨by have := HK1.out; first | omega | exact Nat.le_refl _⟩, ⟨Bl_ HB⟩⟩
     rw [if_pos c40] at H
     have c40b0 : decide (4 ≤ t604) = true := decide_eq_true c40
     clear c40
     obtain ⟨⟨t624, t625⟩, A41, H⟩ := ob_ H
     (try dsimp only at H)
     obtain ⟨⟨t626, t627⟩, A42, H⟩ := ob_ H
     (try dsimp only at H)
     by_cases c43 : t625 = true
     rotate_left
     ·replace c43 := Bool.eq_false_iff.mpr c43
      subst c43
      rw [if_neg (show ¬ (false = true) by decide)] at H
      cases H
     subst c43
     rw [if_pos rfl] at H
     by_cases c44 : t627 = true
     rotate_left
     ·replace c44 := Bool.eq_false_iff.mpr c44
      subst c44
      rw [if_neg (show ¬ (false = true) by decide)] at H
      cases H
     subst c44
     rw [if_pos rfl] at H
     by_cases c45 : (wrap64 (t624 + t626)) = t613
     rotate_left
     ·rw [if_neg c45] at H
      cases H
     rw [if_pos c45] at H
     have c45b0 : ((wrap64 (t624 + t626)) == t613) = true := beq_iff_eq.mpr c45
     have c45b1 : ((wrap64 (t624 + t626)) != t613) = false := bne_eq_false_iff_eq.mpr c45
     clear c45
     have H' := a_ H
     clear H
     go_wp2_with (first | ((with_reducible refine gate_callee (f := 8) rfl ?_); refine gm_ (some 162) Tryz.func8 #[.int .i64 (wrap64 (t604 - 1))] rfl ?_; (with_reducible refine (impl_CountLevels.calls (wrap64 (t604 - 1)) t624 true _ A41.out).mono ?_); rintro e w46 ⟨rfl, hb⟩; refine ⟨_, rfl, ?_⟩; replace HO_6 := a_ (Kd.S_below (Sl_ HO_6.out) hb); replace HO_123 := a_ (Kd.S_below (Sl_ HO_123.out) hb); replace HR618_0 := a_ (Kd.C_below (by repeat (first | (with_reducible exact HR618_0.out) | (with_reducible refine Kd.C_alloc ?_ _) | (with_reducible refine Kd.C_drewN ?_ _) | (with_reducible refine Kd.C_drew ?_) | exact HR618_0.out)) hb); replace HB := Bs_ HB hb; (try clear hb); (try clear hb2); (try clear hk); (try clear hi)) | ((with_reducible refine gate_callee (f := 8) rfl ?_); refine gm_ (some 168) Tryz.func8 #[.int .i64 (wrap64 (t604 - 2))] rfl ?_; (with_reducible refine (impl_CountLevels.calls (wrap64 (t604 - 2)) t626 true _ A42.out).mono ?_); rintro e w47 ⟨rfl, hb⟩; refine ⟨_, rfl, ?_⟩; replace HO_6 := a_ (Kd.S_below (Sl_ HO_6.out) hb); replace HO_123 := a_ (Kd.S_below (Sl_ HO_123.out) hb); replace HR618_0 := a_ (Kd.C_below (by repeat (first | (with_reducible exact HR618_0.out) | (with_reducible refine Kd.C_alloc ?_ _) | (with_reducible refine Kd.C_drewN ?_ _) | (with_reducible refine Kd.C_drew ?_) | exact HR618_0.out)) hb); replace HB := Bs_ HB hb; (try clear hb); (try clear hb2); (try clear hk); (try clear hi)))
     go_meet
     case rel => exact ⟨_, H', ⟨by have := HK1.out; first | omega | exact Nat.le_refl _⟩, ⟨Bl_ HB⟩⟩
    as_aux_lemma =>
    rw [if_pos c28] at H
    have c28b0 : decide (x125_1 < (t605.length : Int)) = true := decide_eq_true c28
    clear c28
    by_cases c29 : 0 ≤ x125_1
    rotate_left
    ·rw [if_neg c29] at H
     cases H
    rw [if_pos c29] at H
    have c29b0 : decide (0 ≤ x125_1) = true := decide_eq_true c29
    clear c29
    by_cases c30 : x125_1 < (t605.length : Int)
    rotate_left
    ·rw [if_neg c30] at H
     cases H
    rw [if_pos c30] at H
    have c30b0 : decide (x125_1 < (t605.length : Int)) = true := decide_eq_true c30
    clear c30
    obtain ⟨⟨t620, t621⟩, A31, H⟩ := ob_ H
    (try dsimp only at H)
    by_cases c32 : t621 = true
    rotate_left
    ·replace c32 := Bool.eq_false_iff.mpr c32
     subst c32
     rw [if_neg (show ¬ (false = true) by decide)] at H
     cases H
    subst c32
    rw [if_pos rfl] at H
    by_cases c33 : t620 = true
    rotate_left
    ·replace c33 := Bool.eq_false_iff.mpr c33
     subst c33
     rw [if_neg (show ¬ (false = true) by decide)] at H
     cases H
    subst c33
    rw [if_pos rfl] at H
    by_cases c34 : x125_1 > 0
    rotate_left
    ·rw [if_neg c34] at H
     have c34b0 : decide (0 < x125_1) = false := decide_eq_false c34
     clear c34
     have H' := a_ H
     clear H
     have p619 : 0 ≤ (x125_1 : Int) := od_
     have q619 : x125_1 < (t605.length : Int) := od_
     obtain ⟨ad619, A619_0, c619_0, e619, hx619_0, hl619_0, hi619_0⟩ := at_L2 (Kd.S_reads' HO_123.out).2.2 x125_1 p619 q619
     obtain rfl : ad618 = ad619 := (by injection e619)
     obtain ⟨ce619, hce619, hMe619, hcc619⟩ := Kd.S_get HO_123.out [] x125_1 p619 (by first | exact q619 | exact od_ | (have e_ := (Kd.S_reads' HO_123.out).1; omega))
     obtain ⟨ve619_0, rfl, ge619_0⟩ := hMe619
     have hv619_0 := hcc619 0 _ rfl
     rw [Nat.add_zero, show ((Kd.slice 3 (Kd.int .i64))).sz = 1 from rfl, Nat.mul_one] at hv619_0
     replace hv619_0 := Option.some.inj (hv619_0.symm.trans hx619_0)
     rw [hv619_0] at ge619_0
     have HL619_0 := a_ (show Kd.R (Kd.int .i64) 3 _ _ _ _ (rd_L2 t605 x125_1) from ge619_0)
     clear hv619_0 ge619_0
     clear hcc619 hce619
     have HR619_0 := a_ hi619_0
     have HC619_0 := a_ hl619_0
     clear hi619_0 hl619_0
     replace p619 := eq_true p619
     replace q619 := eq_true q619
     go_wp2_with (first | ((with_reducible refine gate_callee (f := 11) rfl ?_); refine gm_ (some 133) Tryz.func11 #[.int .i64 t604, .slice A619_0 (rd_L2 t605 x125_1).length c619_0] rfl ?_; (with_reducible refine (impl_IsLevel.calls k1 t604 _ _ (rd_L2 t605 x125_1) true true _ ?side1 ?side2 A31.out).mono ?_); (case side1 => repeat (first | exact (by repeat (first | (with_reducible exact HR619_0.out) | (with_reducible refine Kd.C_alloc ?_ _) | (with_reducible refine Kd.C_drewN ?_ _) | (with_reducible refine Kd.C_drew ?_) | exact HR619_0.out)) | (with_reducible refine Kd.C_alloc ?_ _) | (with_reducible refine Kd.C_drewN ?_ _) | (with_reducible refine Kd.C_drew ?_))); (case side2 => exact HC619_0.out); rintro e w' ⟨rfl, ⟨nd, rfl⟩⟩; refine ⟨_, rfl, ?_⟩))
     go_roundg k1
     case measure => have := HK1.out; omega
     case rel => exact ⟨(wrap64 (x125_1 + 1)), rs_, H', ⟨by have := HK1.out; omega⟩, ⟨Sl_ HO_6.out⟩, ⟨Sl_ HO_123.out⟩, ⟨by repeat (first | (with_reducible exact HR618_0.out) | (with_reducible refine Kd.C_alloc ?_ _) | (with_reducible refine Kd.C_drewN ?_ _) | (with_reducible refine Kd.C_drew ?_) | exact HR618_0.out)⟩, ⟨Bl_ HB⟩⟩
    as_aux_lemma =>
    rw [if_pos c34] at H
    have c34b0 : decide (0 < x125_1) = true := decide_eq_true c34
    clear c34
    obtain ⟨ji35, hji35⟩ : ∃ j_ : Int, (wrap64 (x125_1 - 1)) = j_ := ⟨_, rfl⟩
    replace H : (if 0 ≤ (ji35) then (if (ji35) < (t605.length : Int) then ((laws_nLess.f k1 (rd_L2 t605 (ji35)) (rd_L2 t605 x125_1)).bind fun t623 => (if t623 = true then (laws_FnBricksAndLevels.l0 k1 l1 t604 t605 t613 t605 (t605.length : Int) (wrap64 (x125_1 + 1))) else (none))) else (none)) else (none)) = some r := by first | (rw [hji35] at H; exact H) | (simp only [hji35] at H ⊢; exact H)
    (try rw [hji35] at A31)
    have hji35w : (IntKind.i64.wrap (x125_1 - 1)) = ji35 := (i64_w _).trans hji35
    by_cases c36 : 0 ≤ (ji35)
    rotate_left
    ·rw [if_neg c36] at H
     cases H
    rw [if_pos c36] at H
    have c36b0 : decide (0 ≤ (ji35)) = true := decide_eq_true c36
    clear c36
    by_cases c37 : (ji35) < (t605.length : Int)
    rotate_left
    ·rw [if_neg c37] at H
     cases H
    rw [if_pos c37] at H
    have c37b0 : decide ((ji35) < (t605.length : Int)) = true := decide_eq_true c37
    clear c37
    obtain ⟨t623, A38, H⟩ := ob_ H
    (try dsimp only at H)
    by_cases c39 : t623 = true
    rotate_left
    ·replace c39 := Bool.eq_false_iff.mpr c39
     subst c39
     rw [if_neg (show ¬ (false = true) by decide)] at H
     cases H
    subst c39
    rw [if_pos rfl] at H
    have H' := a_ H
    clear H
    have p619 : 0 ≤ (x125_1 : Int) := od_
    have q619 : x125_1 < (t605.length : Int) := od_
    obtain ⟨ad619, A619_0, c619_0, e619, hx619_0, hl619_0, hi619_0⟩ := at_L2 (Kd.S_reads' HO_123.out).2.2 x125_1 p619 q619
    obtain rfl : ad618 = ad619 := (by injection e619)
    obtain ⟨ce619, hce619, hMe619, hcc619⟩ := Kd.S_get HO_123.out [] x125_1 p619 (by first | exact q619 | exact od_ | (have e_ := (Kd.S_reads' HO_123.out).1; omega))
    obtain ⟨ve619_0, rfl, ge619_0⟩ := hMe619
    have hv619_0 := hcc619 0 _ rfl
    rw [Nat.add_zero, show ((Kd.slice 3 (Kd.int .i64))).sz = 1 from rfl, Nat.mul_one] at hv619_0
    replace hv619_0 := Option.some.inj (hv619_0.symm.trans hx619_0)
    rw [hv619_0] at ge619_0
    have HL619_0 := a_ (show Kd.R (Kd.int .i64) 3 _ _ _ _ (rd_L2 t605 x125_1) from ge619_0)
    clear hv619_0 ge619_0
    clear hcc619 hce619
    have HR619_0 := a_ hi619_0
    have HC619_0 := a_ hl619_0
    clear hi619_0 hl619_0
    replace p619 := eq_true p619
    replace q619 := eq_true q619
    go_wp2_with (first | ((with_reducible refine gate_callee (f := 11) rfl ?_); refine gm_ (some 133) Tryz.func11 #[.int .i64 t604, .slice A619_0 (rd_L2 t605 x125_1).length c619_0] rfl ?_; (with_reducible refine (impl_IsLevel.calls k1 t604 _ _ (rd_L2 t605 x125_1) true true _ ?side1 ?side2 A31.out).mono ?_); (case side1 => repeat (first | exact (by repeat (first | (with_reducible exact HR619_0.out) | (with_reducible refine Kd.C_alloc ?_ _) | (with_reducible refine Kd.C_drewN ?_ _) | (with_reducible refine Kd.C_drew ?_) | exact HR619_0.out)) | (with_reducible refine Kd.C_alloc ?_ _) | (with_reducible refine Kd.C_drewN ?_ _) | (with_reducible refine Kd.C_drew ?_))); (case side2 => exact HC619_0.out); rintro e w' ⟨rfl, ⟨nd, rfl⟩⟩; refine ⟨_, rfl, ?_⟩; have p622 : 0 ≤ ((ji35) : Int) := od_; have q622 : (ji35) < (t605.length : Int) := od_; obtain ⟨ad622, A622_0, c622_0, e622, hx622_0, hl622_0, hi622_0⟩ := at_L2 (Kd.S_reads' HO_6.out).2.2 (ji35) p622 q622; obtain rfl : ad618 = ad622 := (by injection e622); obtain ⟨ce622, hce622, hMe622, hcc622⟩ := Kd.S_get HO_6.out [] (ji35) p622 (by first | exact q622 | exact od_ | (have e_ := (Kd.S_reads' HO_6.out).1; omega)); obtain ⟨ve622_0, rfl, ge622_0⟩ := hMe622; have hv622_0 := hcc622 0 _ rfl; rw [Nat.add_zero, show ((Kd.slice 3 (Kd.int .i64))).sz = 1 from rfl, Nat.mul_one] at hv622_0; replace hv622_0 := Option.some.inj (hv622_0.symm.trans hx622_0); rw [hv622_0] at ge622_0; have HL622_0 := a_ (show Kd.R (Kd.int .i64) 3 _ _ _ _ (rd_L2 t605 (ji35)) from ge622_0); clear hv622_0 ge622_0; clear hcc622 hce622; have HR622_0 := a_ hi622_0; have HC622_0 := a_ hl622_0; clear hi622_0 hl622_0; replace p622 := eq_true p622; replace q622 := eq_true q622) | (go_at_call 12; (with_reducible refine (laws_nLess.calls k1 _ _ (rd_L2 t605 (ji35)) _ _ (rd_L2 t605 x125_1) true _ ?side1 ?side2 ?side3 ?side4 A38.out).mono ?_); (case side1 => repeat (first | exact (by repeat (first | (with_reducible exact HR622_0.out) | (with_reducible refine Kd.C_alloc ?_ _) | (with_reducible refine Kd.C_drewN ?_ _) | (with_reducible refine Kd.C_drew ?_) | exact HR622_0.out)) | (with_reducible refine Kd.C_alloc ?_ _) | (with_reducible refine Kd.C_drewN ?_ _) | (with_reducible refine Kd.C_drew ?_))); (case side2 => exact HC622_0.out); (case side3 => repeat (first | exact (by repeat (first | (with_reducible exact HR619_0.out) | (with_reducible refine Kd.C_alloc ?_ _) | (with_reducible refine Kd.C_drewN ?_ _) | (with_reducible refine Kd.C_drew ?_) | exact HR619_0.out)) | (with_reducible refine Kd.C_alloc ?_ _) | (with_reducible refine Kd.C_drewN ?_ _) | (with_reducible refine Kd.C_drew ?_))); (case side4 => exact HC619_0.out); rintro e w' ⟨rfl, ⟨nd, rfl⟩⟩))
    go_roundg k1
    case measure => have := HK1.out; omega
    case rel => exact ⟨(wrap64 (x125_1 + 1)), rs_, H', ⟨by have := HK1.out; omega⟩, ⟨Sl_ HO_6.out⟩, ⟨Sl_ HO_123.out⟩, ⟨by repeat (first | (with_reducible exact HR618_0.out) | (with_reducible refine Kd.C_alloc ?_ _) | (with_reducible refine Kd.C_drewN ?_ _) | (with_reducible refine Kd.C_drew ?_) | exact HR618_0.out)⟩, ⟨Bl_ HB⟩⟩
 case rest =>
  as_aux_lemma =>
  clear HC16
  try clear c1
  try clear c2
  try clear p2
  try clear c3
  try clear c4
  try clear c5
  try clear c6
  try clear p6
  try clear q6
  try clear hx6
  try clear qi6
  try clear c7
  try clear c8
  try clear c9
  try clear c10
  try clear c10b0
  try clear c10b1
  try clear c10b2
  try clear c11
  try clear c12
  try clear c13
  try clear c13b0
  try clear c13b1
  try clear c13b2
  try clear c14
  try clear c14b0
  try clear c14b1
  try clear c15
  try clear c15b0
  try clear c15b1
  try clear c15b2
  try clear c24
  try clear c25
  try clear c25b0
  try clear c25b1
  try clear c26
  try clear c26b0
  try clear c26b1
  try clear c27
  try clear c27b0
  try clear c27b1
  try clear c28
  try clear c28b0
  try clear c29
  try clear c29b0
  try clear c30
  try clear c30b0
  try clear c32
  try clear c33
  try clear c34
  try clear c34b0
  try clear c36
  try clear c36b0
  try clear c37
  try clear c37b0
  try clear c39
  try clear c40
  try clear c40b0
  try clear c43
  try clear c44
  try clear c45
  try clear c45b0
  try clear c45b1
  try clear hx618_0
  try clear hx619_0
  try clear hx622_0
  try clear p2
  try clear p6
  try clear p618
  try clear p619
  try clear p622
  try clear q6
  try clear q618
  try clear q619
  try clear q622
  obtain ⟨kq, HA, HJ15, HB⟩ := hcut
  cases kq with
  | zero => exact absurd HA.out (by simp [laws_FnBricksAndLevels.j1])
  | succ kj15 =>
   have H := HA.out
   clear HA
   simp only [laws_FnBricksAndLevels.j1] at H
   obtain ⟨⟨t628, t629⟩, A48, H⟩ := ob_ H
   (try dsimp only at H)
   obtain ⟨⟨t630, t631, t634⟩, A49, H⟩ := ob_ H
   (try dsimp only at H)
   obtain ⟨⟨t636, t637, t640⟩, A50, H⟩ := ob_ H
   (try dsimp only at H)
   obtain ⟨⟨t642, t643⟩, A51, H⟩ := ob_ H
   (try dsimp only at H)
   obtain ⟨⟨t646, t647⟩, A52, H⟩ := ob_ H
   (try dsimp only at H)
   by_cases c53 : (t634 != t640) = true
   ·rw [if_pos c53] at H
    cases H
   rw [if_neg c53] at H
   have c53b0 : (t634 != t640) = false := by simpa using c53
   (try (have c53b1 : decide (t634 = t640) = true := by simpa using c53))
   (try (have c53b2 : (t634 == t640) = true := by simpa using c53))
   clear c53
   obtain ⟨t650, A54, H⟩ := ob_ H
   (try dsimp only at H)
   by_cases c55 : t650 = true
   rotate_left
   ·replace c55 := Bool.eq_false_iff.mpr c55
    subst c55
    rw [if_neg (show ¬ (false = true) by decide)] at H
    cases H
   subst c55
   rw [if_pos rfl] at H
   by_cases c56 : (t643 != t647) = true
   ·rw [if_pos c56] at H
    cases H
   rw [if_neg c56] at H
   have c56b0 : (t643 != t647) = false := by simpa using c56
   (try (have c56b1 : decide (t643 = t647) = true := by simpa using c56))
   (try (have c56b2 : (t643 == t647) = true := by simpa using c56))
   clear c56
   obtain ⟨t651, A57, H⟩ := ob_ H
   (try dsimp only at H)
   by_cases c58 : t651 = true
   rotate_left
   ·replace c58 := Bool.eq_false_iff.mpr c58
    subst c58
    rw [if_neg (show ¬ (false = true) by decide)] at H
    cases H
   subst c58
   rw [if_pos rfl] at H
   by_cases c59 : (t643 != t634) = true
   ·rw [if_pos c59] at H
    cases H
   rw [if_neg c59] at H
   have c59b0 : (t643 != t634) = false := by simpa using c59
   (try (have c59b1 : decide (t643 = t634) = true := by simpa using c59))
   (try (have c59b2 : (t643 == t634) = true := by simpa using c59))
   clear c59
   have HC60 := a_ H
   clear H
   go_upto_if 238 with (first | ((with_reducible refine gate_callee (f := 13) rfl ?_); refine gm_ (some 186) Tryz.func13 #[.slice A1 l1.length c1] rfl ?_; (with_reducible refine (spec_DrawBrickLadder.calls _ _ l1 t628 t629 _ ?side1 ?side2 A48.out).mono ?_); (case side1 => exact Cl_ (Kd.C_below HR1.out HB.out)); (case side2 => exact HC1.out); rintro e w61 ⟨rfl, hb⟩; refine ⟨_, rfl, ?_⟩; replace HB := Bs_ HB hb; (try clear hb); (try clear hb2); (try clear hk); (try clear hi)) | ((with_reducible refine gate_callee (f := 14) rfl ?_); refine gm_ (some 192) Tryz.func14 #[.int .i64 t628, .int .i64 t629] rfl ?_; (with_reducible refine (impl_BrickLadder.calls kj15 t628 t629 t630 t631 t634 _ A49.out).mono ?_); rintro e w62 ⟨v632, rfl, ho0, hb⟩; refine ⟨_, rfl, ?_⟩; have HO633 := a_ (Kd.R_lower ho0 (below_size (Bl_ HB))); replace HB := Bs_ HB hb; (try clear hb); (try clear hb2); (try clear hk); (try clear hi); (try clear ho0)) | ((with_reducible refine gate_dst (N := 24) rfl ?_); (try (refine gate_guard (by rfl) ?_; dsimp only)); refine bx_ #[.int .i64 0, .slice none 0 0] 38 ?_ 24; intro gb635 hg w63 hbox hb; replace HO633 := a_ (Kd.R_below (Rl_ HO633.out) hb); have BK635 := a_ (hbox); have GW635 := gw_ HB hg; have GE635 := gw_ HB hg; replace HB := Bs_ HB hb; clear hb hbox hg; have hcz64_0 := cz_ (.int .i64 0) BK635 0; have hcz64_1 := cz_ (.slice none 0 0) BK635 1; have hfz64_0 := fz_ BK635 0; have hfz64_1 := fz_ BK635 1; obtain ⟨Ao65, co65, eo65⟩ := Kd.R_slice HO633.out; subst eo65) | ((with_reducible refine gate_callee (f := 15) rfl ?_); refine gm_ (some 198) Tryz.func15 #[.int .i64 t628, .int .i64 t629] rfl ?_; (with_reducible refine (spec_BrickLadder.calls kj15 t628 t629 t636 t637 t640 _ A50.out).mono ?_); rintro e w66 ⟨v638, rfl, ho0, hb⟩; refine ⟨_, rfl, ?_⟩; have HO639 := a_ (Kd.R_lower (Kd.R_new' ho0 (Kd.R_lt (Rl_ (Rf2_ HO633.out BK635.out (by decide) (.int .i64 t630) (.slice Ao65 t631.length co65))))) (below_size (Bl_ HB))); replace HO633 := a_ (Kd.R_elder' (Rl_ (Rf2_ HO633.out BK635.out (by decide) (.int .i64 t630) (.slice Ao65 t631.length co65))) (Kd.R_base ho0) hb); replace BK635 := a_ (blk_below (g := gb635) (o := .cells #[.int .i64 t630, .slice Ao65 t631.length co65] 38 (0, 0)) (by (with_reducible repeat (first | refine blk_drewN ?_ _ | refine blk_drew ?_ | refine blk_alloc ?_ _)); refine blk_put (cs := #[.int .i64 t630, .slice none 0 0]) ?_ 1 _ rfl; (with_reducible repeat (first | refine blk_drewN ?_ _ | refine blk_drew ?_ | refine blk_alloc ?_ _)); refine blk_put (cs := #[.int .i64 0, .slice none 0 0]) ?_ 0 _ rfl; (with_reducible repeat (first | refine blk_drewN ?_ _ | refine blk_drew ?_ | refine blk_alloc ?_ _)); exact BK635.out) hb); replace HB := Bs_ HB hb; (try clear hb); (try clear hb2); (try clear hk); (try clear hi); (try clear ho0)) | ((with_reducible refine gate_dst (N := 26) rfl ?_); (try (refine gate_guard (by rfl) ?_; dsimp only)); refine bx_ #[.int .i64 0, .slice none 0 0] 38 ?_ 26; intro gb641 hg w67 hbox hb; replace HO633 := a_ (Kd.R_below (Rl_ HO633.out) hb); replace HO639 := a_ (Kd.R_below (Rl_ HO639.out) hb); have BK641 := a_ (hbox); have GW641 := gw_ HB hg; have GE641 := gw_ HB hg; replace HB := Bs_ HB hb; have NB635_641 := nbl_ BK635 hg; have NB641_635 := nbg_ BK635 hg; replace BK635 := blkB_ BK635 hb; clear hb hbox hg; have hnb68 := NB641_635.out; have hnc68 := NB635_641.out; have hcz69_0 := cz_ (.int .i64 0) BK641 0; have hcz69_1 := cz_ (.slice none 0 0) BK641 1; have hfz69_0 := fz_ BK641 0; have hfz69_1 := fz_ BK641 1; obtain ⟨Ao70, co70, eo70⟩ := Kd.R_slice HO639.out; subst eo70) | ((with_reducible refine gate_callee (f := 16) rfl ?_); refine gm_ (some 204) Tryz.func16 #[.int .i64 t628, .int .i64 t629] rfl ?_; (with_reducible refine (impl_BrickOrder.calls kj15 t628 t629 t642 t643 _ A51.out).mono ?_); rintro e w71 ⟨v644, rfl, ho0, hb⟩; refine ⟨_, rfl, ?_⟩; have HO645 := a_ (Kd.R_lower (Kd.R_new' (Kd.R_new' ho0 (Kd.R_lt (Rl_ (Rf2_ HO633.out BK641.out (by decide) (.int .i64 t636) (.slice Ao70 t637.length co70))))) (Kd.R_lt (Rl_ (Rf2_ HO639.out BK641.out (by decide) (.int .i64 t636) (.slice Ao70 t637.length co70))))) (below_size (Bl_ HB))); replace HO633 := a_ (Kd.R_elder' (Rl_ (Rf2_ HO633.out BK641.out (by decide) (.int .i64 t636) (.slice Ao70 t637.length co70))) (Kd.R_base ho0) hb); replace HO639 := a_ (Kd.R_elder' (Rl_ (Rf2_ HO639.out BK641.out (by decide) (.int .i64 t636) (.slice Ao70 t637.length co70))) (Kd.R_base ho0) hb); replace BK635 := blkF_ BK635 NB635_641 hb; replace BK641 := a_ (blk_below (g := gb641) (o := .cells #[.int .i64 t636, .slice Ao70 t637.length co70] 38 (0, 0)) (by (with_reducible repeat (first | refine blk_drewN ?_ _ | refine blk_drew ?_ | refine blk_alloc ?_ _)); refine blk_put (cs := #[.int .i64 t636, .slice none 0 0]) ?_ 1 _ rfl; (with_reducible repeat (first | refine blk_drewN ?_ _ | refine blk_drew ?_ | refine blk_alloc ?_ _)); refine blk_put (cs := #[.int .i64 0, .slice none 0 0]) ?_ 0 _ rfl; (with_reducible repeat (first | refine blk_drewN ?_ _ | refine blk_drew ?_ | refine blk_alloc ?_ _)); exact BK641.out) hb); replace HB := Bs_ HB hb; (try clear hb); (try clear hb2); (try clear hk); (try clear hi); (try clear ho0)) | ((with_reducible refine gate_callee (f := 17) rfl ?_); refine gm_ (some 210) Tryz.func17 #[.int .i64 t628, .int .i64 t629] rfl ?_; (with_reducible refine (spec_BrickOrder.calls kj15 t628 t629 t646 t647 _ A52.out).mono ?_); rintro e w72 ⟨v648, rfl, ho0, hb⟩; refine ⟨_, rfl, ?_⟩; have HO649 := a_ (Kd.R_lower (Kd.R_new' (Kd.R_new' (Kd.R_new' ho0 (Kd.R_lt (Rl_ HO633.out))) (Kd.R_lt (Rl_ HO639.out))) (Kd.R_lt (Rl_ HO645.out))) (below_size (Bl_ HB))); replace HO633 := a_ (Kd.R_elder' (Rl_ HO633.out) (Kd.R_base ho0) hb); replace HO639 := a_ (Kd.R_elder' (Rl_ HO639.out) (Kd.R_base ho0) hb); replace HO645 := a_ (Kd.R_elder' (Rl_ HO645.out) (Kd.R_base ho0) hb); replace BK635 := blkB_ BK635 hb; replace BK641 := blkB_ BK641 hb; replace HB := Bs_ HB hb; (try clear hb); (try clear hb2); (try clear hk); (try clear hi); (try clear ho0); have hcz73_0 := cz_ (.int .i64 t630) BK635 0; have hcz73_1 := cz_ (.slice Ao65 t631.length co65) BK635 1; have hfz73_0 := fz_ BK635 0; have hfz73_1 := fz_ BK635 1; have hcz74_0 := cz_ (.int .i64 t636) BK641 0; have hcz74_1 := cz_ (.slice Ao70 t637.length co70) BK641 1; have hfz74_0 := fz_ BK641 0; have hfz74_1 := fz_ BK641 1) | (go_at_call 18; (with_reducible refine (laws_nLadder.calls kj15 t630 _ _ t631 t636 _ _ t637 true _ ?side1 ?side2 ?side3 ?side4 A54.out).mono ?_); (case side1 => exact Cl_ (Kd.R_reads' HO633.out).2.2); (case side2 => exact (Kd.R_reads' HO633.out).2.1); (case side3 => exact Cl_ (Kd.R_reads' HO639.out).2.2); (case side4 => exact (Kd.R_reads' HO639.out).2.1); rintro e w75 ⟨rfl, hb⟩; replace HO633 := a_ (Kd.R_below (Rl_ HO633.out) hb); replace HO639 := a_ (Kd.R_below (Rl_ HO639.out) hb); replace HO645 := a_ (Kd.R_below (Rl_ HO645.out) hb); replace HO649 := a_ (Kd.R_below (Rl_ HO649.out) hb); replace BK635 := blkB_ BK635 hb; replace BK641 := blkB_ BK641 hb; replace HB := Bs_ HB hb; (try clear hb); (try clear hb2); (try clear hk); (try clear hi); obtain ⟨Ao76, co76, eo76⟩ := Kd.R_slice HO645.out; subst eo76; obtain ⟨Ao77, co77, eo77⟩ := Kd.R_slice HO649.out; subst eo77) | (go_at_call 19; (with_reducible refine (laws_nSame.calls kj15 _ _ t642 _ _ t646 true _ ?side1 ?side2 ?side3 ?side4 A57.out).mono ?_); (case side1 => exact Cl_ (Kd.R_reads' HO645.out).2.2); (case side2 => exact (Kd.R_reads' HO645.out).2.1); (case side3 => exact Cl_ (Kd.R_reads' HO649.out).2.2); (case side4 => exact (Kd.R_reads' HO649.out).2.1); rintro e w' ⟨rfl, ⟨nd, rfl⟩⟩))
   (try simp only [Act.put, List.setIfInBounds_toArray, List.set_cons_zero, List.set_cons_succ])
   as_aux_lemma =>
   go_cut [] (fun wc => ∃ (kq : Nat), Aside0 (laws_FnBricksAndLevels.j3 kq l1 = some r) ∧ Aside0 (kq ≤ kj15) ∧ Aside0 (Below w.heap.size w wc))
   case first =>
    as_aux_lemma =>
    have H := HC60.out
    clear HC60
    by_cases c78 : t634 = true
    rotate_left
    ·replace c78 := Bool.eq_false_iff.mpr c78
     subst c78
     rw [if_neg (show ¬ (false = true) by decide)] at H
     have H' := a_ H
     clear H
     go_wp2
     go_meet
     case rel => exact ⟨_, H', ⟨by have := HJ15.out; first | omega | exact Nat.le_refl _⟩, ⟨Bl_ HB⟩⟩
    subst c78
    rw [if_pos rfl] at H
    obtain ⟨⟨t652, t655⟩, A79, H⟩ := ob_ H
    (try dsimp only at H)
    by_cases c80 : t655 = true
    rotate_left
    ·replace c80 := Bool.eq_false_iff.mpr c80
     subst c80
     rw [if_neg (show ¬ (false = true) by decide)] at H
     cases H
    subst c80
    rw [if_pos rfl] at H
    obtain ⟨t656, A81, H⟩ := ob_ H
    (try dsimp only at H)
    by_cases c82 : t656 = true
    rotate_left
    ·replace c82 := Bool.eq_false_iff.mpr c82
     subst c82
     rw [if_neg (show ¬ (false = true) by decide)] at H
     cases H
    subst c82
    rw [if_pos rfl] at H
    by_cases c83 : t629 = t628
    rotate_left
    ·rw [if_neg c83] at H
     have c83b0 : (t629 == t628) = false := beq_eq_false_iff_ne.mpr c83
     have c83b1 : (t629 != t628) = true := bne_iff_ne.mpr c83
     (first | rw [c83b0] | (simp only [i64_w, i32_w]; rw [c83b0]) | skip)
     have H' := a_ H
     clear H
     have hnb92 := NB635_641.out
     have hnc92 := NB641_635.out
     have hcz93_0 := cz_ (.int .i64 t630) BK635 0
     have hcz93_1 := cz_ (.slice Ao65 t631.length co65) BK635 1
     have hfz93_0 := fz_ BK635 0
     have hfz93_1 := fz_ BK635 1
     go_wp2_with (first | ((with_reducible refine gate_callee (f := 20) rfl ?_); refine gm_ (some 241) Tryz.func20 #[.agg #[.int .i64 t630, .slice Ao65 t631.length co65]] rfl ?_; (with_reducible refine (impl_ResultOf.calls kj15 t630 _ _ t631 t652 true _ ?side1 ?side2 A79.out).mono ?_); (case side1 => exact Cl_ (Kd.R_reads' HO633.out).2.2); (case side2 => exact (Kd.R_reads' HO633.out).2.1); rintro e w94 ⟨v653, rfl, ho0, hb⟩; refine ⟨_, rfl, ?_⟩; have HO654 := a_ (Kd.R_lower (Kd.R_new' (Kd.R_new' (Kd.R_new' (Kd.R_new' ho0 (Kd.R_lt (Rl_ HO633.out))) (Kd.R_lt (Rl_ HO639.out))) (Kd.R_lt (Rl_ HO645.out))) (Kd.R_lt (Rl_ HO649.out))) (below_size (Bl_ HB))); replace HO633 := a_ (Kd.R_elder' (Rl_ HO633.out) (Kd.R_base ho0) hb); replace HO639 := a_ (Kd.R_elder' (Rl_ HO639.out) (Kd.R_base ho0) hb); replace HO645 := a_ (Kd.R_elder' (Rl_ HO645.out) (Kd.R_base ho0) hb); replace HO649 := a_ (Kd.R_elder' (Rl_ HO649.out) (Kd.R_base ho0) hb); replace BK635 := blkB_ BK635 hb; replace BK641 := blkB_ BK641 hb; replace HB := Bs_ HB hb; (try clear hb); (try clear hb2); (try clear hk); (try clear hi); (try clear ho0); obtain ⟨Ao95, co95, eo95⟩ := Kd.R_slice HO654.out; subst eo95) | (go_at_call 19; (with_reducible refine (laws_nSame.calls kj15 _ _ t652 _ _ t642 true _ ?side1 ?side2 ?side3 ?side4 A81.out).mono ?_); (case side1 => exact Cl_ (Kd.R_reads' HO654.out).2.2); (case side2 => exact (Kd.R_reads' HO654.out).2.1); (case side3 => exact Cl_ (Kd.R_reads' HO645.out).2.2); (case side4 => exact (Kd.R_reads' HO645.out).2.1); rintro e w' ⟨rfl, ⟨nd, rfl⟩⟩))
     go_meet
     case rel => exact ⟨_, H', ⟨by have := HJ15.out; first | omega | exact Nat.le_refl _⟩, ⟨Bl_ HB⟩⟩
    as_aux_lemma =>
    rw [if_pos c83] at H
    have c83b0 : (t629 == t628) = true := beq_iff_eq.mpr c83
    have c83b1 : (t629 != t628) = false := bne_eq_false_iff_eq.mpr c83
    clear c83
    (first | rw [c83b0] | (simp only [i64_w, i32_w]; rw [c83b0]) | skip)
    have H' := a_ H
    clear H
    have hnb84 := NB635_641.out
    have hnc84 := NB641_635.out
    have hcz85_0 := cz_ (.int .i64 t630) BK635 0
    have hcz85_1 := cz_ (.slice Ao65 t631.length co65) BK635 1
    have hfz85_0 := fz_ BK635 0
    have hfz85_1 := fz_ BK635 1
    go_wp2_with (first | ((with_reducible refine gate_callee (f := 20) rfl ?_); refine gm_ (some 241) Tryz.func20 #[.agg #[.int .i64 t630, .slice Ao65 t631.length co65]] rfl ?_; (with_reducible refine (impl_ResultOf.calls kj15 t630 _ _ t631 t652 true _ ?side1 ?side2 A79.out).mono ?_); (case side1 => exact Cl_ (Kd.R_reads' HO633.out).2.2); (case side2 => exact (Kd.R_reads' HO633.out).2.1); rintro e w86 ⟨v653, rfl, ho0, hb⟩; refine ⟨_, rfl, ?_⟩; have HO654 := a_ (Kd.R_lower (Kd.R_new' (Kd.R_new' (Kd.R_new' (Kd.R_new' ho0 (Kd.R_lt (Rl_ HO633.out))) (Kd.R_lt (Rl_ HO639.out))) (Kd.R_lt (Rl_ HO645.out))) (Kd.R_lt (Rl_ HO649.out))) (below_size (Bl_ HB))); replace HO633 := a_ (Kd.R_elder' (Rl_ HO633.out) (Kd.R_base ho0) hb); replace HO639 := a_ (Kd.R_elder' (Rl_ HO639.out) (Kd.R_base ho0) hb); replace HO645 := a_ (Kd.R_elder' (Rl_ HO645.out) (Kd.R_base ho0) hb); replace HO649 := a_ (Kd.R_elder' (Rl_ HO649.out) (Kd.R_base ho0) hb); replace BK635 := blkB_ BK635 hb; replace BK641 := blkB_ BK641 hb; replace HB := Bs_ HB hb; (try clear hb); (try clear hb2); (try clear hk); (try clear hi); (try clear ho0); obtain ⟨Ao87, co87, eo87⟩ := Kd.R_slice HO654.out; subst eo87) | (go_at_call 19; (with_reducible refine (laws_nSame.calls kj15 _ _ t652 _ _ t642 true _ ?side1 ?side2 ?side3 ?side4 A81.out).mono ?_); (case side1 => exact Cl_ (Kd.R_reads' HO654.out).2.2); (case side2 => exact (Kd.R_reads' HO654.out).2.1); (case side3 => exact Cl_ (Kd.R_reads' HO645.out).2.2); (case side4 => exact (Kd.R_reads' HO645.out).2.1); rintro e w' ⟨rfl, ⟨nd, rfl⟩⟩))
    go_loopg [257] kj15 (fun kq v257 w' => ∃ (x257_2 : Int), v257 = .int .i64 x257_2 ∧ Aside0 (laws_FnBricksAndLevels.l1 kq l1 t628 t642 (t642.length : Int) x257_2 = some r) ∧ Aside0 (kq ≤ kj15) ∧ Aside0 (Kd.R (Kd.int .i64) 3 w' w.heap.size (fun _ => True) (.slice Ao76 t642.length co76) t642) ∧ Aside0 (Below w.heap.size w w'))
    case atStart => exact ⟨(0), rs_, H', ⟨Nat.le_refl _⟩, ⟨Rl_ (Kd.R_mono HO645.out (fun _ hk => trivial))⟩, ⟨Bl_ HB⟩⟩
    case round =>
     as_aux_lemma =>
     clear H'
     try clear c1
     try clear c2
     try clear p2
     try clear c3
     try clear c4
     try clear c5
     try clear c6
     try clear p6
     try clear q6
     try clear hx6
     try clear qi6
     try clear c7
     try clear c8
     try clear c9
     try clear c10
     try clear c10b0
     try clear c10b1
     try clear c10b2
     try clear c11
     try clear c12
     try clear c13
     try clear c13b0
     try clear c13b1
     try clear c13b2
     try clear c14
     try clear c14b0
     try clear c14b1
     try clear c15
     try clear c15b0
     try clear c15b1
     try clear c15b2
     try clear c16
     try clear c17
     try clear c20
     try clear c24
     try clear c25
     try clear c25b0
     try clear c25b1
     try clear c26
     try clear c26b0
     try clear c26b1
     try clear c27
     try clear c27b0
     try clear c27b1
     try clear c28
     try clear c28b0
     try clear c29
     try clear c29b0
     try clear c30
     try clear c30b0
     try clear c32
     try clear c33
     try clear c34
     try clear c34b0
     try clear c36
     try clear c36b0
     try clear c37
     try clear c37b0
     try clear c39
     try clear c40
     try clear c40b0
     try clear c43
     try clear c44
     try clear c45
     try clear c45b0
     try clear c45b1
     try clear c53
     try clear c53b0
     try clear c53b1
     try clear c53b2
     try clear c55
     try clear c56
     try clear c56b0
     try clear c56b1
     try clear c56b2
     try clear c58
     try clear c59
     try clear c59b0
     try clear c59b1
     try clear c59b2
     try clear c61
     try clear p61
     try clear q61
     try clear hx61
     try clear qi61
     try clear c62
     try clear p62
     try clear q62
     try clear hx62
     try clear p64
     try clear c68
     try clear c78
     try clear c80
     try clear c82
     try clear c83
     try clear c83b0
     try clear c83b1
     try clear c84
     try clear hcz64_0
     try clear hcz64_1
     try clear hcz69_0
     try clear hcz69_1
     try clear hcz73_0
     try clear hcz73_1
     try clear hcz74_0
     try clear hcz74_1
     try clear hcz85_0
     try clear hcz85_1
     try clear hfz64_0
     try clear hfz64_1
     try clear hfz69_0
     try clear hfz69_1
     try clear hfz73_0
     try clear hfz73_1
     try clear hfz74_0
     try clear hfz74_1
     try clear hfz85_0
     try clear hfz85_1
     try clear hx618_0
     try clear hx619_0
     try clear hx622_0
     try clear p2
     try clear p6
     try clear p618
     try clear p619
     try clear p622
     try clear q6
     try clear q618
     try clear q619
     try clear q622
     obtain ⟨x257_2, rfl, HA, HK2, HO_255, HB⟩ := hrel
     cases gk with
     | zero => exact absurd HA.out (by simp [laws_FnBricksAndLevels.l1])
     | succ k2 =>
      have H := HA.out
      clear HA
      simp only [laws_FnBricksAndLevels.l1] at H
      by_cases c88 : x257_2 < (t642.length : Int)
      rotate_left
      ·rw [if_neg c88] at H
       have c88b0 : decide (x257_2 < (t642.length : Int)) = false := decide_eq_false c88
       clear c88
       have H' := a_ H
       clear H
       go_wp2
       go_meet
       case rel => exact ⟨_, H', ⟨by have := HJ15.out; have := HK2.out; first | omega | exact Nat.le_refl _⟩, ⟨Bl_ HB⟩⟩
      rw [if_pos c88] at H
      have c88b0 : decide (x257_2 < (t642.length : Int)) = true := decide_eq_true c88
      clear c88
      by_cases c89 : 0 ≤ x257_2
      rotate_left
      ·rw [if_neg c89] at H
       cases H
      rw [if_pos c89] at H
      have c89b0 : decide (0 ≤ x257_2) = true := decide_eq_true c89
      clear c89
      by_cases c90 : x257_2 < (t642.length : Int)
      rotate_left
      ·rw [if_neg c90] at H
       cases H
      rw [if_pos c90] at H
      have c90b0 : decide (x257_2 < (t642.length : Int)) = true := decide_eq_true c90
      clear c90
      by_cases c91 : (rd t642 x257_2) = (wrap64 ((wrap64 (t628 - 1)) - x257_2))
      rotate_left
      ·rw [if_neg c91] at H
       cases H
      rw [if_pos c91] at H
      have c91b0 : ((rd t642 x257_2) == (wrap64 ((wrap64 (t628 - 1)) - x257_2))) = true := beq_iff_eq.mpr c91
      have c91b1 : ((rd t642 x257_2) != (wrap64 ((wrap64 (t628 - 1)) - x257_2))) = false := bne_eq_false_iff_eq.mpr c91
      clear c91
      have H' := a_ H
      clear H
      have p657 : 0 ≤ (x257_2 : Int) := od_
      have q657 : x257_2 < (t642.length : Int) := od_
      obtain ⟨ad657, e657, hx657_0⟩ := Kd.at_int (Kd.R_reads' HO_255.out).2.2 x257_2 p657 q657
      cases e657
      replace p657 := eq_true p657
      replace q657 := eq_true q657
      go_wp2
      go_roundg k2
      case measure => have := HJ15.out; have := HK2.out; omega
      case rel => exact ⟨(wrap64 (x257_2 + 1)), rs_, H', ⟨by have := HJ15.out; have := HK2.out; omega⟩, ⟨Rl_ HO_255.out⟩, ⟨Bl_ HB⟩⟩
   case rest =>
    as_aux_lemma =>
    clear HC60
    try clear c1
    try clear c2
    try clear p2
    try clear c3
    try clear c4
    try clear c5
    try clear c6
    try clear p6
    try clear q6
    try clear hx6
    try clear qi6
    try clear c7
    try clear c8
    try clear c9
    try clear c10
    try clear c10b0
    try clear c10b1
    try clear c10b2
    try clear c11
    try clear c12
    try clear c13
    try clear c13b0
    try clear c13b1
    try clear c13b2
    try clear c14
    try clear c14b0
    try clear c14b1
    try clear c15
    try clear c15b0
    try clear c15b1
    try clear c15b2
    try clear c16
    try clear c17
    try clear c20
    try clear c24
    try clear c25
    try clear c25b0
    try clear c25b1
    try clear c26
    try clear c26b0
    try clear c26b1
    try clear c27
    try clear c27b0
    try clear c27b1
    try clear c28
    try clear c28b0
    try clear c29
    try clear c29b0
    try clear c30
    try clear c30b0
    try clear c32
    try clear c33
    try clear c34
    try clear c34b0
    try clear c36
    try clear c36b0
    try clear c37
    try clear c37b0
    try clear c39
    try clear c40
    try clear c40b0
    try clear c43
    try clear c44
    try clear c45
    try clear c45b0
    try clear c45b1
    try clear c53
    try clear c53b0
    try clear c53b1
    try clear c53b2
    try clear c55
    try clear c56
    try clear c56b0
    try clear c56b1
    try clear c56b2
    try clear c58
    try clear c59
    try clear c59b0
    try clear c59b1
    try clear c59b2
    try clear c61
    try clear p61
    try clear q61
    try clear hx61
    try clear qi61
    try clear c62
    try clear p62
    try clear q62
    try clear hx62
    try clear p64
    try clear p65
    try clear q65
    try clear hx65
    try clear c68
    try clear c78
    try clear c80
    try clear c82
    try clear c83
    try clear c83b0
    try clear c83b1
    try clear c84
    try clear c88
    try clear c88b0
    try clear c89
    try clear c89b0
    try clear c90
    try clear c90b0
    try clear c91
    try clear c91b0
    try clear c91b1
    try clear c92
    try clear hcz64_0
    try clear hcz64_1
    try clear hcz69_0
    try clear hcz69_1
    try clear hcz73_0
    try clear hcz73_1
    try clear hcz74_0
    try clear hcz74_1
    try clear hcz85_0
    try clear hcz85_1
    try clear hcz93_0
    try clear hcz93_1
    try clear hfz64_0
    try clear hfz64_1
    try clear hfz69_0
    try clear hfz69_1
    try clear hfz73_0
    try clear hfz73_1
    try clear hfz74_0
    try clear hfz74_1
    try clear hfz85_0
    try clear hfz85_1
    try clear hfz93_0
    try clear hfz93_1
    try clear hx618_0
    try clear hx619_0
    try clear hx622_0
    try clear hx657_0
    try clear p2
    try clear p6
    try clear p61
    try clear p618
    try clear p619
    try clear p62
    try clear p622
    try clear p64
    try clear p657
    try clear q6
    try clear q61
    try clear q618
    try clear q619
    try clear q62
    try clear q622
    try clear q657
    obtain ⟨kq, HA, HJ59, HB⟩ := hcut
    cases kq with
    | zero => exact absurd HA.out (by simp [laws_FnBricksAndLevels.j3])
    | succ kj59 =>
     have H := HA.out
     clear HA
     simp only [laws_FnBricksAndLevels.j3] at H
     obtain ⟨t658, A96, H⟩ := ob_ H
     (try dsimp only at H)
     obtain ⟨⟨t659, t660⟩, A97, H⟩ := ob_ H
     (try dsimp only at H)
     obtain ⟨⟨t663, t664⟩, A98, H⟩ := ob_ H
     (try dsimp only at H)
     obtain ⟨⟨t667, t668⟩, A99, H⟩ := ob_ H
     (try dsimp only at H)
     obtain ⟨⟨t671, t672, t675⟩, A100, H⟩ := ob_ H
     (try dsimp only at H)
     obtain ⟨⟨t677, t678, t681⟩, A101, H⟩ := ob_ H
     (try dsimp only at H)
     obtain ⟨⟨t683, t684⟩, A102, H⟩ := ob_ H
     (try dsimp only at H)
     obtain ⟨⟨t687, t688⟩, A103, H⟩ := ob_ H
     (try dsimp only at H)
     obtain ⟨⟨t689, t690⟩, A104, H⟩ := ob_ H
     (try dsimp only at H)
     by_cases c105 : (t660 != t664) = true
     ·rw [if_pos c105] at H
      cases H
     rw [if_neg c105] at H
     have c105b0 : (t660 != t664) = false := by simpa using c105
     (try (have c105b1 : decide (t660 = t664) = true := by simpa using c105))
     (try (have c105b2 : (t660 == t664) = true := by simpa using c105))
     clear c105
     obtain ⟨t691, A106, H⟩ := ob_ H
     (try dsimp only at H)
     by_cases c107 : t691 = true
     rotate_left
     ·replace c107 := Bool.eq_false_iff.mpr c107
      subst c107
      rw [if_neg (show ¬ (false = true) by decide)] at H
      cases H
     subst c107
     rw [if_pos rfl] at H
     by_cases c108 : (t675 != t681) = true
     ·rw [if_pos c108] at H
      cases H
     rw [if_neg c108] at H
     have c108b0 : (t675 != t681) = false := by simpa using c108
     (try (have c108b1 : decide (t675 = t681) = true := by simpa using c108))
     (try (have c108b2 : (t675 == t681) = true := by simpa using c108))
     clear c108
     obtain ⟨t692, A109, H⟩ := ob_ H
     (try dsimp only at H)
     by_cases c110 : t692 = true
     rotate_left
     ·replace c110 := Bool.eq_false_iff.mpr c110
      subst c110
      rw [if_neg (show ¬ (false = true) by decide)] at H
      cases H
     subst c110
     rw [if_pos rfl] at H
     by_cases c111 : (t688 != t690) = true
     ·rw [if_pos c111] at H
      cases H
     rw [if_neg c111] at H
     have c111b0 : (t688 != t690) = false := by simpa using c111
     (try (have c111b1 : decide (t688 = t690) = true := by simpa using c111))
     (try (have c111b2 : (t688 == t690) = true := by simpa using c111))
     clear c111
     by_cases c112 : (t687 != t689) = true
     ·rw [if_pos c112] at H
      cases H
     rw [if_neg c112] at H
     have c112b0 : (t687 != t689) = false := by simpa using c112
     (try (have c112b1 : decide (t687 = t689) = true := by simpa using c112))
     (try (have c112b2 : (t687 == t689) = true := by simpa using c112))
     clear c112
     have HC113 := a_ H
     clear H
     go_upto_if 345 with (first | ((with_reducible refine gate_callee (f := 21) rfl ?_); refine gm_ (some 270) Tryz.func21 #[.slice A1 l1.length c1] rfl ?_; (with_reducible refine (spec_DrawCountDepths.calls _ _ l1 t658 _ ?side1 ?side2 A96.out).mono ?_); (case side1 => exact Cl_ (Kd.C_below HR1.out HB.out)); (case side2 => exact HC1.out); rintro e w114 ⟨rfl, hb⟩; refine ⟨_, rfl, ?_⟩; replace HB := Bs_ HB hb; (try clear hb); (try clear hb2); (try clear hk); (try clear hi)) | ((with_reducible refine gate_callee (f := 22) rfl ?_); refine gm_ (some 273) Tryz.func22 #[.int .i64 t658] rfl ?_; (with_reducible refine (impl_CountDepths.calls kj59 t658 t659 t660 _ A97.out).mono ?_); rintro e w115 ⟨v661, rfl, ho0, hb⟩; refine ⟨_, rfl, ?_⟩; have HO662 := a_ (Kd.R_lower ho0 (below_size (Bl_ HB))); replace HB := Bs_ HB hb; (try clear hb); (try clear hb2); (try clear hk); (try clear hi); (try clear ho0)) | ((with_reducible refine gate_callee (f := 23) rfl ?_); refine gm_ (some 278) Tryz.func23 #[.int .i64 t658] rfl ?_; (with_reducible refine (spec_CountDepths.calls kj59 t658 t663 t664 _ A98.out).mono ?_); rintro e w116 ⟨v665, rfl, ho0, hb⟩; refine ⟨_, rfl, ?_⟩; have HO666 := a_ (Kd.R_lower (Kd.R_new' ho0 (Kd.R_lt (Rl_ HO662.out))) (below_size (Bl_ HB))); replace HO662 := a_ (Kd.R_elder' (Rl_ HO662.out) (Kd.R_base ho0) hb); replace HB := Bs_ HB hb; (try clear hb); (try clear hb2); (try clear hk); (try clear hi); (try clear ho0)) | ((with_reducible refine gate_callee (f := 24) rfl ?_); refine gm_ (some 283) Tryz.func24 #[.slice A1 l1.length c1] rfl ?_; (with_reducible refine (spec_DrawLadderOfLevels.calls kj59 _ _ l1 t667 t668 _ ?side1 ?side2 A99.out).mono ?_); (case side1 => exact Cl_ (Kd.C_below HR1.out HB.out)); (case side2 => exact HC1.out); rintro e w117 ⟨v669, rfl, ho0, hb⟩; refine ⟨_, rfl, ?_⟩; have HO670 := a_ (Kd.S_lower (Kd.S_new' (Kd.S_new' ho0 (Kd.R_lt (Rl_ HO662.out))) (Kd.R_lt (Rl_ HO666.out))) (below_size (Bl_ HB))); replace HO662 := a_ (Kd.R_below (Rl_ HO662.out) hb); replace HO666 := a_ (Kd.R_below (Rl_ HO666.out) hb); replace HB := Bs_ HB hb; (try clear hb); (try clear hb2); (try clear hk); (try clear hi); (try clear ho0); obtain ⟨Ao118, co118, eo118⟩ := Kd.S_slice HO670.out; subst eo118) | ((with_reducible refine gate_callee (f := 25) rfl ?_); refine gm_ (some 289) Tryz.func25 #[.int .i64 t667, .slice Ao118 t668.length co118] rfl ?_; (with_reducible refine (impl_LadderOfLevels.calls kj59 t667 _ _ t668 t671 t672 t675 _ ?side1 ?side2 A100.out).mono ?_); (case side1 => repeat (first | exact (Kd.S_reads' HO670.out).2.2 | (with_reducible refine Kd.C_alloc ?_ _) | (with_reducible refine Kd.C_drewN ?_ _) | (with_reducible refine Kd.C_drew ?_))); (case side2 => exact (Kd.S_reads' HO670.out).2.1); rintro e w119 ⟨v673, rfl, ho0, hb⟩; refine ⟨_, rfl, ?_⟩; replace HO670 := a_ (Kd.S_elder' (Sl_ HO670.out) (Kd.R_base ho0) hb); have HO674 := a_ (Kd.R_lower (Kd.R_new' (Kd.R_new' ho0 (Kd.R_lt (Rl_ HO662.out))) (Kd.R_lt (Rl_ HO666.out))) (below_size (Bl_ HB))); replace HO662 := a_ (Kd.R_elder' (Rl_ HO662.out) (Kd.R_base ho0) hb); replace HO666 := a_ (Kd.R_elder' (Rl_ HO666.out) (Kd.R_base ho0) hb); replace HB := Bs_ HB hb; (try clear hb); (try clear hb2); (try clear hk); (try clear hi); (try clear ho0)) | ((with_reducible refine gate_dst (N := 43) rfl ?_); (try (refine gate_guard (by rfl) ?_; dsimp only)); refine bx_ #[.int .i64 0, .slice none 0 0] 38 ?_ 43; intro gb676 hg w120 hbox hb; replace HO662 := a_ (Kd.R_below (Rl_ HO662.out) hb); replace HO666 := a_ (Kd.R_below (Rl_ HO666.out) hb); replace HO670 := a_ (Kd.S_below (Sl_ HO670.out) hb); replace HO674 := a_ (Kd.R_below (Rl_ HO674.out) hb); have BK676 := a_ (hbox); have GW676 := gw_ HB hg; have GE676 := gw_ HB hg; replace HB := Bs_ HB hb; clear hb hbox hg; have hcz121_0 := cz_ (.int .i64 0) BK676 0; have hcz121_1 := cz_ (.slice none 0 0) BK676 1; have hfz121_0 := fz_ BK676 0; have hfz121_1 := fz_ BK676 1; obtain ⟨Ao122, co122, eo122⟩ := Kd.R_slice HO674.out; subst eo122) | ((with_reducible refine gate_callee (f := 26) rfl ?_); refine gm_ (some 295) Tryz.func26 #[.int .i64 t667, .slice Ao118 t668.length co118] rfl ?_; (with_reducible refine (spec_LadderOfLevels.calls kj59 t667 _ _ t668 t677 t678 t681 _ ?side1 ?side2 A101.out).mono ?_); (case side1 => refine (Kd.S_reads' (e := 31) (base := w.heap.size) (ok := fun k_ => (((True ∧ some k_ ≠ (v661 : Value).ownBlock) ∧ some k_ ≠ (v665 : Value).ownBlock) ∧ some k_ ≠ (.slice Ao122 t672.length co122 : Value).ownBlock)) (n := t668.length) (c := co118) ?_).2.2; exact (Sl_ (Kd.S_mono (Kd.S_far (p := ⟨gb676, 1, none⟩) (Kd.S_far (p := ⟨gb676, 0, none⟩) (Kd.S_types HO670.out BK676.out (by decide)) (fun _ hk => hk.2) (.int .i64 t671)) (fun _ hk => hk.2) (.slice Ao122 t672.length co122)) (fun _ h_ => h_.1)))); (case side2 => exact (Kd.S_reads' HO670.out).2.1); rintro e w123 ⟨v679, rfl, ho0, hb⟩; refine ⟨_, rfl, ?_⟩; replace HO670 := a_ (Kd.S_elder' (Sl_ (Kd.S_mono (Kd.S_far (p := ⟨gb676, 1, none⟩) (Kd.S_far (p := ⟨gb676, 0, none⟩) (Kd.S_types HO670.out BK676.out (by decide)) (fun _ hk => hk.2) (.int .i64 t671)) (fun _ hk => hk.2) (.slice Ao122 t672.length co122)) (fun _ h_ => h_.1))) (Kd.R_base ho0) hb); have HO680 := a_ (Kd.R_lower (Kd.R_new' (Kd.R_new' (Kd.R_new' ho0 (Kd.R_lt (Rl_ (Rf2_ HO662.out BK676.out (by decide) (.int .i64 t671) (.slice Ao122 t672.length co122))))) (Kd.R_lt (Rl_ (Rf2_ HO666.out BK676.out (by decide) (.int .i64 t671) (.slice Ao122 t672.length co122))))) (Kd.R_lt (Rl_ (Rf2_ HO674.out BK676.out (by decide) (.int .i64 t671) (.slice Ao122 t672.length co122))))) (below_size (Bl_ HB))); replace HO662 := a_ (Kd.R_elder' (Rl_ (Rf2_ HO662.out BK676.out (by decide) (.int .i64 t671) (.slice Ao122 t672.length co122))) (Kd.R_base ho0) hb); replace HO666 := a_ (Kd.R_elder' (Rl_ (Rf2_ HO666.out BK676.out (by decide) (.int .i64 t671) (.slice Ao122 t672.length co122))) (Kd.R_base ho0) hb); replace HO674 := a_ (Kd.R_elder' (Rl_ (Rf2_ HO674.out BK676.out (by decide) (.int .i64 t671) (.slice Ao122 t672.length co122))) (Kd.R_base ho0) hb); replace BK676 := a_ (blk_below (g := gb676) (o := .cells #[.int .i64 t671, .slice Ao122 t672.length co122] 38 (0, 0)) (by (with_reducible repeat (first | refine blk_drewN ?_ _ | refine blk_drew ?_ | refine blk_alloc ?_ _)); refine blk_put (cs := #[.int .i64 t671, .slice none 0 0]) ?_ 1 _ rfl; (with_reducible repeat (first | refine blk_drewN ?_ _ | refine blk_drew ?_ | refine blk_alloc ?_ _)); refine blk_put (cs := #[.int .i64 0, .slice none 0 0]) ?_ 0 _ rfl; (with_reducible repeat (first | refine blk_drewN ?_ _ | refine blk_drew ?_ | refine blk_alloc ?_ _)); exact BK676.out) hb); replace HB := Bs_ HB hb; (try clear hb); (try clear hb2); (try clear hk); (try clear hi); (try clear ho0)) | ((with_reducible refine gate_dst (N := 45) rfl ?_); (try (refine gate_guard (by rfl) ?_; dsimp only)); refine bx_ #[.int .i64 0, .slice none 0 0] 38 ?_ 45; intro gb682 hg w124 hbox hb; replace HO662 := a_ (Kd.R_below (Rl_ HO662.out) hb); replace HO666 := a_ (Kd.R_below (Rl_ HO666.out) hb); replace HO670 := a_ (Kd.S_below (Sl_ HO670.out) hb); replace HO674 := a_ (Kd.R_below (Rl_ HO674.out) hb); replace HO680 := a_ (Kd.R_below (Rl_ HO680.out) hb); have BK682 := a_ (hbox); have GW682 := gw_ HB hg; have GE682 := gw_ HB hg; replace HB := Bs_ HB hb; have NB676_682 := nbl_ BK676 hg; have NB682_676 := nbg_ BK676 hg; replace BK676 := blkB_ BK676 hb; clear hb hbox hg; have hnb125 := NB682_676.out; have hnc125 := NB676_682.out; have hcz126_0 := cz_ (.int .i64 0) BK682 0; have hcz126_1 := cz_ (.slice none 0 0) BK682 1; have hfz126_0 := fz_ BK682 0; have hfz126_1 := fz_ BK682 1; obtain ⟨Ao127, co127, eo127⟩ := Kd.R_slice HO680.out; subst eo127) | ((with_reducible refine gate_callee (f := 27) rfl ?_); refine gm_ (some 300) Tryz.func27 #[.slice A1 l1.length c1] rfl ?_; (with_reducible refine (spec_DrawIsLevel.calls kj59 _ _ l1 t683 t684 _ ?side1 ?side2 A102.out).mono ?_); (case side1 => exact Kd.C_below HR1.out (Bl_ HB)); (case side2 => exact HC1.out); rintro e w128 ⟨v685, rfl, ho0, hb⟩; refine ⟨_, rfl, ?_⟩; replace HO670 := a_ (Kd.S_elder' (Sl_ (Kd.S_mono (Kd.S_far (p := ⟨gb682, 1, none⟩) (Kd.S_far (p := ⟨gb682, 0, none⟩) (Kd.S_types HO670.out BK682.out (by decide)) (fun _ hk => hk.2) (.int .i64 t677)) (fun _ hk => hk.2) (.slice Ao127 t678.length co127)) (fun _ h_ => h_.1))) (Kd.R_base ho0) hb); have HO686 := a_ (Kd.R_lower (Kd.R_new' (Kd.R_new' (Kd.R_new' (Kd.R_new' ho0 (Kd.R_lt (Rl_ (Rf2_ HO662.out BK682.out (by decide) (.int .i64 t677) (.slice Ao127 t678.length co127))))) (Kd.R_lt (Rl_ (Rf2_ HO666.out BK682.out (by decide) (.int .i64 t677) (.slice Ao127 t678.length co127))))) (Kd.R_lt (Rl_ (Rf2_ HO674.out BK682.out (by decide) (.int .i64 t677) (.slice Ao127 t678.length co127))))) (Kd.R_lt (Rl_ (Rf2_ HO680.out BK682.out (by decide) (.int .i64 t677) (.slice Ao127 t678.length co127))))) (below_size (Bl_ HB))); replace HO662 := a_ (Kd.R_elder' (Rl_ (Rf2_ HO662.out BK682.out (by decide) (.int .i64 t677) (.slice Ao127 t678.length co127))) (Kd.R_base ho0) hb); replace HO666 := a_ (Kd.R_elder' (Rl_ (Rf2_ HO666.out BK682.out (by decide) (.int .i64 t677) (.slice Ao127 t678.length co127))) (Kd.R_base ho0) hb); replace HO674 := a_ (Kd.R_elder' (Rl_ (Rf2_ HO674.out BK682.out (by decide) (.int .i64 t677) (.slice Ao127 t678.length co127))) (Kd.R_base ho0) hb); replace HO680 := a_ (Kd.R_elder' (Rl_ (Rf2_ HO680.out BK682.out (by decide) (.int .i64 t677) (.slice Ao127 t678.length co127))) (Kd.R_base ho0) hb); replace BK676 := blkF_ BK676 NB676_682 hb; replace BK682 := a_ (blk_below (g := gb682) (o := .cells #[.int .i64 t677, .slice Ao127 t678.length co127] 38 (0, 0)) (by (with_reducible repeat (first | refine blk_drewN ?_ _ | refine blk_drew ?_ | refine blk_alloc ?_ _)); refine blk_put (cs := #[.int .i64 t677, .slice none 0 0]) ?_ 1 _ rfl; (with_reducible repeat (first | refine blk_drewN ?_ _ | refine blk_drew ?_ | refine blk_alloc ?_ _)); refine blk_put (cs := #[.int .i64 0, .slice none 0 0]) ?_ 0 _ rfl; (with_reducible repeat (first | refine blk_drewN ?_ _ | refine blk_drew ?_ | refine blk_alloc ?_ _)); exact BK682.out) hb); replace HB := Bs_ HB hb; (try clear hb); (try clear hb2); (try clear hk); (try clear hi); (try clear ho0); obtain ⟨Ao129, co129, eo129⟩ := Kd.R_slice HO686.out; subst eo129) | ((with_reducible refine gate_callee (f := 11) rfl ?_); refine gm_ (some 306) Tryz.func11 #[.int .i64 t683, .slice Ao129 t684.length co129] rfl ?_; (with_reducible refine (impl_IsLevel.calls kj59 t683 _ _ t684 t687 t688 _ ?side1 ?side2 A103.out).mono ?_); (case side1 => exact Cl_ (Kd.R_reads' HO686.out).2.2); (case side2 => exact (Kd.R_reads' HO686.out).2.1); rintro e w' ⟨rfl, ⟨nd, rfl⟩⟩; refine ⟨_, rfl, ?_⟩) | ((with_reducible refine gate_callee (f := 28) rfl ?_); refine gm_ (some 312) Tryz.func28 #[.int .i64 t683, .slice Ao129 t684.length co129] rfl ?_; (with_reducible refine (spec_IsLevel.calls kj59 t683 _ _ t684 t689 t690 _ ?side1 ?side2 A104.out).mono ?_); (case side1 => exact Cl_ (Kd.R_reads' HO686.out).2.2); (case side2 => exact (Kd.R_reads' HO686.out).2.1); rintro e w' ⟨rfl, ⟨nd, rfl⟩⟩; refine ⟨_, rfl, ?_⟩; obtain ⟨Ao130, co130, eo130⟩ := Kd.R_slice HO662.out; subst eo130; obtain ⟨Ao131, co131, eo131⟩ := Kd.R_slice HO666.out; subst eo131) | (go_at_call 19; (with_reducible refine (laws_nSame.calls kj59 _ _ t659 _ _ t663 true _ ?side1 ?side2 ?side3 ?side4 A106.out).mono ?_); (case side1 => exact Cl_ (Kd.R_reads' HO662.out).2.2); (case side2 => exact (Kd.R_reads' HO662.out).2.1); (case side3 => exact Cl_ (Kd.R_reads' HO666.out).2.2); (case side4 => exact (Kd.R_reads' HO666.out).2.1); rintro e w' ⟨rfl, ⟨nd, rfl⟩⟩; have hcz132_0 := cz_ (.int .i64 t671) BK676 0; have hcz132_1 := cz_ (.slice Ao122 t672.length co122) BK676 1; have hfz132_0 := fz_ BK676 0; have hfz132_1 := fz_ BK676 1; have hcz133_0 := cz_ (.int .i64 t677) BK682 0; have hcz133_1 := cz_ (.slice Ao127 t678.length co127) BK682 1; have hfz133_0 := fz_ BK682 0; have hfz133_1 := fz_ BK682 1) | (go_at_call 18; (with_reducible refine (laws_nLadder.calls kj59 t671 _ _ t672 t677 _ _ t678 true _ ?side1 ?side2 ?side3 ?side4 A109.out).mono ?_); (case side1 => exact Cl_ (Kd.R_reads' HO674.out).2.2); (case side2 => exact (Kd.R_reads' HO674.out).2.1); (case side3 => exact Cl_ (Kd.R_reads' HO680.out).2.2); (case side4 => exact (Kd.R_reads' HO680.out).2.1); rintro e w134 ⟨rfl, hb⟩; replace HO662 := a_ (Kd.R_below (Rl_ HO662.out) hb); replace HO666 := a_ (Kd.R_below (Rl_ HO666.out) hb); replace HO670 := a_ (Kd.S_below (Sl_ HO670.out) hb); replace HO674 := a_ (Kd.R_below (Rl_ HO674.out) hb); replace HO680 := a_ (Kd.R_below (Rl_ HO680.out) hb); replace HO686 := a_ (Kd.R_below (Rl_ HO686.out) hb); replace BK676 := blkB_ BK676 hb; replace BK682 := blkB_ BK682 hb; replace HB := Bs_ HB hb; (try clear hb); (try clear hb2); (try clear hk); (try clear hi)))
     (try simp only [Act.put, List.setIfInBounds_toArray, List.set_cons_zero, List.set_cons_succ])
     as_aux_lemma =>
     go_cut [] (fun wc => ∃ (kq : Nat), Aside0 (laws_FnBricksAndLevels.j5 kq t668 t675 t671 t672 = some r) ∧ Aside0 (kq ≤ kj59) ∧ Aside0 (Kd.S (Kd.slice 3 (Kd.int .i64)) 31 wc w.heap.size (fun k_ => some k_ ≠ ((.slice Ao122 t672.length co122) : Value).ownBlock) (.slice Ao118 t668.length co118) t668) ∧ Aside0 (Kd.R (Kd.int .i64) 3 wc w.heap.size (fun _ => True) (.slice Ao122 t672.length co122) t672) ∧ Aside0 (wc.heap[gb676]? = some (.cells #[.int .i64 t671, (.slice Ao122 t672.length co122)] 38 (0, 0))) ∧ Aside0 (Below w.heap.size w wc))
     case first =>
      as_aux_lemma =>
      have H := HC113.out
      clear HC113
      by_cases c135 : t660 = true
      rotate_left
      ·replace c135 := Bool.eq_false_iff.mpr c135
       subst c135
       rw [if_neg (show ¬ (false = true) by decide)] at H
       have H' := a_ H
       clear H
       go_wp2
       go_meet
       case rel => exact ⟨_, H', ⟨by have := HJ15.out; have := HJ59.out; first | omega | exact Nat.le_refl _⟩, ⟨Sl_ (Kd.S_mono HO670.out (fun _ hk => hk.1.1.2))⟩, ⟨Rl_ (Kd.R_mono HO674.out (fun _ hk => trivial))⟩, ⟨bl_ BK676⟩, ⟨Bl_ HB⟩⟩
      subst c135
      rw [if_pos rfl] at H
      have H' := a_ H
      clear H
      go_wp2
      go_loopg [53, 54] kj59 (fun kq v53 v54 w' => ∃ (x53_3 : Int) (x54_3 : Int), v53 = .int .i64 x53_3 ∧ v54 = .int .i64 x54_3 ∧ Aside0 (laws_FnBricksAndLevels.l2 kq t658 t659 t668 t675 x53_3 x54_3 t671 t672 = some r) ∧ Aside0 (kq ≤ kj59) ∧ Aside0 (Kd.R (Kd.int .i64) 3 w' w.heap.size (fun k_ => some k_ ≠ ((.slice Ao122 t672.length co122) : Value).ownBlock) (.slice Ao130 t659.length co130) t659) ∧ Aside0 (Kd.S (Kd.slice 3 (Kd.int .i64)) 31 w' w.heap.size (fun k_ => some k_ ≠ ((.slice Ao130 t659.length co130) : Value).ownBlock ∧ some k_ ≠ ((.slice Ao122 t672.length co122) : Value).ownBlock) (.slice Ao118 t668.length co118) t668) ∧ Aside0 (Kd.R (Kd.int .i64) 3 w' w.heap.size (fun k_ => some k_ ≠ ((.slice Ao130 t659.length co130) : Value).ownBlock) (.slice Ao122 t672.length co122) t672) ∧ Aside0 (w'.heap[gb676]? = some (.cells #[.int .i64 t671, (.slice Ao122 t672.length co122)] 38 (0, 0))) ∧ Aside0 (Below w.heap.size w w'))
      case atStart => exact ⟨(1), (2), rs_, rs_, H', ⟨Nat.le_refl _⟩, ⟨Rl_ (Kd.R_mono HO662.out (fun _ hk => hk.1.1.2))⟩, ⟨Sl_ (Kd.S_mono HO670.out (fun _ hk => ⟨hk.1.1.1.1.2, hk.1.1.2⟩))⟩, ⟨Rl_ (Kd.R_mono HO674.out (fun _ hk => hk.1.1.1.2))⟩, ⟨bl_ BK676⟩, ⟨Bl_ HB⟩⟩
      case round =>
       as_aux_lemma =>
       clear H'
       try clear c1
       try clear c2
       try clear p2
       try clear c3
       try clear c4
       try clear c5
       try clear c6
       try clear p6
       try clear q6
       try clear hx6
       try clear qi6
       try clear c7
       try clear c8
       try clear c9
       try clear c10
       try clear c10b0
       try clear c10b1
       try clear c10b2
       try clear c11
       try clear c12
       try clear c13
       try clear c13b0
       try clear c13b1
       try clear c13b2
       try clear c14
       try clear c14b0
       try clear c14b1
       try clear c15
       try clear c15b0
       try clear c15b1
       try clear c15b2
       try clear c16
       try clear c17
       try clear c20
       try clear c21
       try clear c22
       try clear c23
       try clear c24
       try clear c25
       try clear c25b0
       try clear c25b1
       try clear c26
       try clear c26b0
       try clear c26b1
       try clear c27
       try clear c27b0
       try clear c27b1
       try clear c28
       try clear c28b0
       try clear c29
       try clear c29b0
       try clear c30
       try clear c30b0
       try clear c32
       try clear c33
       try clear c34
       try clear c34b0
       try clear c36
       try clear c36b0
       try clear c37
       try clear c37b0
       try clear c39
       try clear c40
       try clear c40b0
       try clear c43
       try clear c44
       try clear c45
       try clear c45b0
       try clear c45b1
       try clear c53
       try clear c53b0
       try clear c53b1
       try clear c53b2
       try clear c55
       try clear c56
       try clear c56b0
       try clear c56b1
       try clear c56b2
       try clear c58
       try clear c59
       try clear c59b0
       try clear c59b1
       try clear c59b2
       try clear c61
       try clear p61
       try clear q61
       try clear hx61
       try clear qi61
       try clear c62
       try clear p62
       try clear q62
       try clear hx62
       try clear p64
       try clear p65
       try clear q65
       try clear hx65
       try clear c68
       try clear c78
       try clear c80
       try clear c82
       try clear c83
       try clear c83b0
       try clear c83b1
       try clear c84
       try clear c88
       try clear c88b0
       try clear c89
       try clear c89b0
       try clear c90
       try clear c90b0
       try clear c91
       try clear c91b0
       try clear c91b1
       try clear c92
       try clear c105
       try clear c105b0
       try clear c105b1
       try clear c105b2
       try clear c107
       try clear c108
       try clear c108b0
       try clear c108b1
       try clear c108b2
       try clear c110
       try clear c111
       try clear c111b0
       try clear c111b1
       try clear c111b2
       try clear c112
       try clear c112b0
       try clear c112b1
       try clear c112b2
       try clear c125
       try clear c135
       try clear hcz121_0
       try clear hcz121_1
       try clear hcz126_0
       try clear hcz126_1
       try clear hcz132_0
       try clear hcz132_1
       try clear hcz133_0
       try clear hcz133_1
       try clear hcz64_0
       try clear hcz64_1
       try clear hcz69_0
       try clear hcz69_1
       try clear hcz73_0
       try clear hcz73_1
       try clear hcz74_0
       try clear hcz74_1
       try clear hcz85_0
       try clear hcz85_1
       try clear hcz93_0
       try clear hcz93_1
       try clear hfz121_0
       try clear hfz121_1
       try clear hfz126_0
       try clear hfz126_1
       try clear hfz132_0
       try clear hfz132_1
       try clear hfz133_0
       try clear hfz133_1
       try clear hfz64_0
       try clear hfz64_1
       try clear hfz69_0
       try clear hfz69_1
       try clear hfz73_0
       try clear hfz73_1
       try clear hfz74_0
       try clear hfz74_1
       try clear hfz85_0
       try clear hfz85_1
       try clear hfz93_0
       try clear hfz93_1
       try clear hx618_0
       try clear hx619_0
       try clear hx622_0
       try clear hx657_0
       try clear p2
       try clear p6
       try clear p61
       try clear p618
       try clear p619
       try clear p62
       try clear p622
       try clear p64
       try clear p65
       try clear p657
       try clear q6
       try clear q61
       try clear q618
       try clear q619
       try clear q62
       try clear q622
       try clear q65
       try clear q657
       obtain ⟨x53_3, x54_3, rfl, rfl, HA, HK3, HO_37, HO_42, HO_677001, BK676, HB⟩ := hrel
       cases gk with
       | zero => exact absurd HA.out (by simp [laws_FnBricksAndLevels.l2])
       | succ k3 =>
        have H := HA.out
        clear HA
        simp only [laws_FnBricksAndLevels.l2] at H
        by_cases c136 : x54_3 ≤ t658
        ·rw [if_pos c136] at H
         have c136b0 : decide (x54_3 ≤ t658) = true := decide_eq_true c136
         clear c136
         (first | rw [c136b0] | (simp only [i64_w, i32_w]; rw [c136b0]) | skip)
         have H' := a_ H
         clear H
         go_wp2
         go_roundg k3
         case measure => have := HJ15.out; have := HJ59.out; have := HK3.out; omega
         case rel => exact ⟨(wrap64 (x53_3 * x54_3)), (wrap64 (x54_3 + 1)), rs_, rs_, H', ⟨by have := HJ15.out; have := HJ59.out; have := HK3.out; omega⟩, ⟨Rl_ HO_37.out⟩, ⟨Sl_ HO_42.out⟩, ⟨Rl_ HO_677001.out⟩, ⟨bl_ BK676⟩, ⟨Bl_ HB⟩⟩
        rw [if_neg c136] at H
        have c136b0 : decide (x54_3 ≤ t658) = false := decide_eq_false c136
        clear c136
        (first | rw [c136b0] | (simp only [i64_w, i32_w]; rw [c136b0]) | skip)
        obtain ⟨⟨t693, t694⟩, A137, H⟩ := ob_ H
        (try dsimp only at H)
        by_cases c138 : t694 = true
        rotate_left
        ·replace c138 := Bool.eq_false_iff.mpr c138
         subst c138
         rw [if_neg (show ¬ (false = true) by decide)] at H
         cases H
        subst c138
        rw [if_pos rfl] at H
        obtain ⟨t695, A139, H⟩ := ob_ H
        (try dsimp only at H)
        by_cases c140 : t695 = x53_3
        rotate_left
        ·rw [if_neg c140] at H
         cases H
        rw [if_pos c140] at H
        have c140b0 : (t695 == x53_3) = true := beq_iff_eq.mpr c140
        have c140b1 : (t695 != x53_3) = false := bne_eq_false_iff_eq.mpr c140
        clear c140
        by_cases c141 : 0 < (t659.length : Int)
        rotate_left
        ·rw [if_neg c141] at H
         cases H
        rw [if_pos c141] at H
        have c141b0 : decide (0 < (t659.length : Int)) = true := decide_eq_true c141
        have c141b1 : decide (0 < t659.length) = true := decide_eq_true (by omega)
        clear c141
        by_cases c142 : (rd t659 0) = 1
        rotate_left
        ·rw [if_neg c142] at H
         cases H
        rw [if_pos c142] at H
        have c142b0 : ((rd t659 0) == 1) = true := beq_iff_eq.mpr c142
        have c142b1 : ((rd t659 0) != 1) = false := bne_eq_false_iff_eq.mpr c142
        clear c142
        by_cases c143 : 1 < (t659.length : Int)
        rotate_left
        ·rw [if_neg c143] at H
         cases H
        rw [if_pos c143] at H
        have c143b0 : decide (1 < (t659.length : Int)) = true := decide_eq_true c143
        have c143b1 : decide (1 < t659.length) = true := decide_eq_true (by omega)
        clear c143
        by_cases c144 : (rd t659 1) = (wrap64 (t693 - 1))
        rotate_left
        ·rw [if_neg c144] at H
         cases H
        rw [if_pos c144] at H
        have c144b0 : ((rd t659 1) == (wrap64 (t693 - 1))) = true := beq_iff_eq.mpr c144
        have c144b1 : ((rd t659 1) != (wrap64 (t693 - 1))) = false := bne_eq_false_iff_eq.mpr c144
        clear c144
        by_cases c145 : (t659.length : Int) > (wrap64 (t658 + 1))
        ·rw [if_pos c145] at H
         cases H
        rw [if_neg c145] at H
        have c145b0 : decide ((wrap64 (t658 + 1)) < (t659.length : Int)) = false := decide_eq_false c145
        clear c145
        have H' := a_ H
        clear H
        go_wp2_with (first | ((with_reducible refine gate_callee (f := 8) rfl ?_); refine gm_ (some 356) Tryz.func8 #[.int .i64 t658] rfl ?_; (with_reducible refine (impl_CountLevels.calls t658 t693 true _ A137.out).mono ?_); rintro e w146 ⟨rfl, hb⟩; refine ⟨_, rfl, ?_⟩; replace HO_37 := a_ (Kd.R_below (Rl_ HO_37.out) hb); replace HO_42 := a_ (Kd.S_below (Sl_ HO_42.out) hb); replace HO_677001 := a_ (Kd.R_below (Rl_ HO_677001.out) hb); replace BK676 := blkB_ BK676 hb; replace HB := Bs_ HB hb; (try clear hb); (try clear hb2); (try clear hk); (try clear hi)) | (go_at_call 29; (with_reducible refine (laws_nSum.calls k3 _ _ t659 t695 _ ?side1 ?side2 A139.out).mono ?_); (case side1 => exact Cl_ (Kd.R_reads' HO_37.out).2.2); (case side2 => exact (Kd.R_reads' HO_37.out).2.1); rintro e w' ⟨rfl, ⟨nd, rfl⟩⟩; have p696 : 0 ≤ (0 : Int) := (by omega); have q696 : 0 < (t659.length : Int) := od_; obtain ⟨ad696, e696, hx696_0⟩ := Kd.at_int (Kd.R_reads' HO_37.out).2.2 0 p696 q696; cases e696; have qi696 : (0 < t659.length) = True := eq_true (by omega); (try rw [show ((0 : Int)).toNat = 0 from rfl] at hx696_0); (try rw [Addr.add_zero'] at hx696_0); replace p696 := eq_true p696; replace q696 := eq_true q696; have p697 : 0 ≤ (1 : Int) := (by omega); have q697 : 1 < (t659.length : Int) := od_; obtain ⟨ad697, e697, hx697_0⟩ := Kd.at_int (Kd.R_reads' HO_37.out).2.2 1 p697 q697; obtain rfl : ad696 = ad697 := (by injection e697); (try simp only [show (1 : Int).toNat = 1 from rfl, Nat.reduceMul, Nat.reduceEqDiff, Go.Addr.add, ↓reduceIte] at hx697_0); have qi697 : (1 < t659.length) = True := eq_true (by omega); (try rw [show ((1 : Int)).toNat = 1 from rfl] at hx697_0); replace p697 := eq_true p697; replace q697 := eq_true q697))
        go_meet
        case rel => exact ⟨_, H', ⟨by have := HJ15.out; have := HJ59.out; have := HK3.out; first | omega | exact Nat.le_refl _⟩, ⟨Sl_ (Kd.S_mono HO_42.out (fun _ hk => hk.2))⟩, ⟨Rl_ (Kd.R_mono HO_677001.out (fun _ hk => trivial))⟩, ⟨bl_ BK676⟩, ⟨Bl_ HB⟩⟩
     case rest =>
      as_aux_lemma =>
      clear HC113
      try clear c1
      try clear c2
      try clear p2
      try clear c3
      try clear c4
      try clear c5
      try clear c6
      try clear p6
      try clear q6
      try clear hx6
      try clear qi6
      try clear c7
      try clear c8
      try clear c9
      try clear c10
      try clear c10b0
      try clear c10b1
      try clear c10b2
      try clear c11
      try clear c12
      try clear c13
      try clear c13b0
      try clear c13b1
      try clear c13b2
      try clear c14
      try clear c14b0
      try clear c14b1
      try clear c15
      try clear c15b0
      try clear c15b1
      try clear c15b2
      try clear c16
      try clear c17
      try clear c20
      try clear c21
      try clear c22
      try clear c23
      try clear c24
      try clear c25
      try clear c25b0
      try clear c25b1
      try clear c26
      try clear c26b0
      try clear c26b1
      try clear c27
      try clear c27b0
      try clear c27b1
      try clear c28
      try clear c28b0
      try clear c29
      try clear c29b0
      try clear c30
      try clear c30b0
      try clear c32
      try clear c33
      try clear c34
      try clear c34b0
      try clear c36
      try clear c36b0
      try clear c37
      try clear c37b0
      try clear c39
      try clear c40
      try clear c40b0
      try clear c43
      try clear c44
      try clear c45
      try clear c45b0
      try clear c45b1
      try clear c53
      try clear c53b0
      try clear c53b1
      try clear c53b2
      try clear c55
      try clear c56
      try clear c56b0
      try clear c56b1
      try clear c56b2
      try clear c58
      try clear c59
      try clear c59b0
      try clear c59b1
      try clear c59b2
      try clear c61
      try clear p61
      try clear q61
      try clear hx61
      try clear qi61
      try clear c62
      try clear p62
      try clear q62
      try clear hx62
      try clear p64
      try clear p65
      try clear q65
      try clear hx65
      try clear c68
      try clear p69
      try clear q69
      try clear hx69
      try clear qi69
      try clear c78
      try clear c80
      try clear c82
      try clear c83
      try clear c83b0
      try clear c83b1
      try clear c84
      try clear c88
      try clear c88b0
      try clear c89
      try clear c89b0
      try clear c90
      try clear c90b0
      try clear c91
      try clear c91b0
      try clear c91b1
      try clear c92
      try clear c105
      try clear c105b0
      try clear c105b1
      try clear c105b2
      try clear c107
      try clear c108
      try clear c108b0
      try clear c108b1
      try clear c108b2
      try clear c110
      try clear c111
      try clear c111b0
      try clear c111b1
      try clear c111b2
      try clear c112
      try clear c112b0
      try clear c112b1
      try clear c112b2
      try clear c125
      try clear c135
      try clear c136
      try clear c136b0
      try clear c138
      try clear c140
      try clear c140b0
      try clear c140b1
      try clear c141
      try clear c141b0
      try clear c141b1
      try clear c142
      try clear c142b0
      try clear c142b1
      try clear c143
      try clear c143b0
      try clear c143b1
      try clear c144
      try clear c144b0
      try clear c144b1
      try clear c145
      try clear c145b0
      try clear hcz121_0
      try clear hcz121_1
      try clear hcz126_0
      try clear hcz126_1
      try clear hcz132_0
      try clear hcz132_1
      try clear hcz133_0
      try clear hcz133_1
      try clear hcz64_0
      try clear hcz64_1
      try clear hcz69_0
      try clear hcz69_1
      try clear hcz73_0
      try clear hcz73_1
      try clear hcz74_0
      try clear hcz74_1
      try clear hcz85_0
      try clear hcz85_1
      try clear hcz93_0
      try clear hcz93_1
      try clear hfz121_0
      try clear hfz121_1
      try clear hfz126_0
      try clear hfz126_1
      try clear hfz132_0
      try clear hfz132_1
      try clear hfz133_0
      try clear hfz133_1
      try clear hfz64_0
      try clear hfz64_1
      try clear hfz69_0
      try clear hfz69_1
      try clear hfz73_0
      try clear hfz73_1
      try clear hfz74_0
      try clear hfz74_1
      try clear hfz85_0
      try clear hfz85_1
      try clear hfz93_0
      try clear hfz93_1
      try clear hx618_0
      try clear hx619_0
      try clear hx622_0
      try clear hx657_0
      try clear hx696_0
      try clear hx697_0
      try clear p2
      try clear p6
      try clear p61
      try clear p618
      try clear p619
      try clear p62
      try clear p622
      try clear p64
      try clear p65
      try clear p657
      try clear p696
      try clear p697
      try clear q6
      try clear q61
      try clear q618
      try clear q619
      try clear q62
      try clear q622
      try clear q65
      try clear q657
      try clear q696
      try clear q697
      obtain ⟨kq, HA, HJ112, HO_42, HO_677001, BK676, HB⟩ := hcut
      cases kq with
      | zero => exact absurd HA.out (by simp [laws_FnBricksAndLevels.j5])
      | succ kj112 =>
       have H := HA.out
       clear HA
       simp only [laws_FnBricksAndLevels.j5] at H
       by_cases c147 : t675 = true
       rotate_left
       ·replace c147 := Bool.eq_false_iff.mpr c147
        subst c147
        rw [if_neg (show ¬ (false = true) by decide)] at H
        obtain rfl := Option.some.inj H
        go_wp2
        go_ret
        exact ⟨re_, Bl_ HB⟩
       subst c147
       rw [if_pos rfl] at H
       have H' := a_ H
       clear H
       go_wp2
       go_loopg [57, 391] kj112 (fun kq v57 v391 w' => ∃ (x57_4 : Int) (x391_4 : Int), v57 = .int .i64 x57_4 ∧ v391 = .int .i64 x391_4 ∧ Aside0 (laws_FnBricksAndLevels.l3 kq t668 x57_4 t668 (t668.length : Int) x391_4 t671 t672 = some r) ∧ Aside0 (kq ≤ kj112) ∧ Aside0 (Kd.S (Kd.slice 3 (Kd.int .i64)) 31 w' w.heap.size (fun k_ => some k_ ≠ ((.slice Ao122 t672.length co122) : Value).ownBlock) (.slice Ao118 t668.length co118) t668) ∧ Aside0 (Kd.S (Kd.slice 3 (Kd.int .i64)) 31 w' w.heap.size (fun k_ => some k_ ≠ ((.slice Ao122 t672.length co122) : Value).ownBlock) (.slice Ao118 t668.length co118) t668) ∧ Aside0 (Kd.R (Kd.int .i64) 3 w' w.heap.size (fun _ => True) (.slice Ao122 t672.length co122) t672) ∧ Aside0 (w'.heap[gb676]? = some (.cells #[.int .i64 t671, (.slice Ao122 t672.length co122)] 38 (0, 0))) ∧ Aside0 (Below w.heap.size w w'))
       case atStart => exact ⟨(0), (0), rs_, rs_, H', ⟨Nat.le_refl _⟩, ⟨Sl_ HO_42.out⟩, ⟨Sl_ HO_42.out⟩, ⟨Rl_ HO_677001.out⟩, ⟨bl_ BK676⟩, ⟨Bl_ HB⟩⟩
       case round =>
        as_aux_lemma =>
        clear H'
        try clear c1
        try clear c2
        try clear p2
        try clear c3
        try clear c4
        try clear c5
        try clear c6
        try clear p6
        try clear q6
        try clear hx6
        try clear qi6
        try clear c7
        try clear c8
        try clear c9
        try clear c10
        try clear c10b0
        try clear c10b1
        try clear c10b2
        try clear c11
        try clear c12
        try clear c13
        try clear c13b0
        try clear c13b1
        try clear c13b2
        try clear c14
        try clear c14b0
        try clear c14b1
        try clear c15
        try clear c15b0
        try clear c15b1
        try clear c15b2
        try clear c16
        try clear c17
        try clear c20
        try clear c21
        try clear c22
        try clear c23
        try clear c24
        try clear c25
        try clear c25b0
        try clear c25b1
        try clear c26
        try clear c26b0
        try clear c26b1
        try clear c27
        try clear c27b0
        try clear c27b1
        try clear c28
        try clear c28b0
        try clear c29
        try clear c29b0
        try clear c30
        try clear c30b0
        try clear c32
        try clear c33
        try clear c34
        try clear c34b0
        try clear c36
        try clear c36b0
        try clear c37
        try clear c37b0
        try clear c39
        try clear c40
        try clear c40b0
        try clear c43
        try clear c44
        try clear c45
        try clear c45b0
        try clear c45b1
        try clear c53
        try clear c53b0
        try clear c53b1
        try clear c53b2
        try clear c55
        try clear c56
        try clear c56b0
        try clear c56b1
        try clear c56b2
        try clear c58
        try clear c59
        try clear c59b0
        try clear c59b1
        try clear c59b2
        try clear c61
        try clear p61
        try clear q61
        try clear hx61
        try clear qi61
        try clear c62
        try clear p62
        try clear q62
        try clear hx62
        try clear p64
        try clear p65
        try clear q65
        try clear hx65
        try clear c68
        try clear p69
        try clear q69
        try clear hx69
        try clear qi69
        try clear c78
        try clear c80
        try clear c82
        try clear c83
        try clear c83b0
        try clear c83b1
        try clear c84
        try clear c88
        try clear c88b0
        try clear c89
        try clear c89b0
        try clear c90
        try clear c90b0
        try clear c91
        try clear c91b0
        try clear c91b1
        try clear c92
        try clear c105
        try clear c105b0
        try clear c105b1
        try clear c105b2
        try clear c107
        try clear c108
        try clear c108b0
        try clear c108b1
        try clear c108b2
        try clear c110
        try clear c111
        try clear c111b0
        try clear c111b1
        try clear c111b2
        try clear c112
        try clear c112b0
        try clear c112b1
        try clear c112b2
        try clear c125
        try clear c135
        try clear c136
        try clear c136b0
        try clear c138
        try clear c140
        try clear c140b0
        try clear c140b1
        try clear c141
        try clear c141b0
        try clear c141b1
        try clear c142
        try clear c142b0
        try clear c142b1
        try clear c143
        try clear c143b0
        try clear c143b1
        try clear c144
        try clear c144b0
        try clear c144b1
        try clear c145
        try clear c145b0
        try clear c147
        try clear hcz121_0
        try clear hcz121_1
        try clear hcz126_0
        try clear hcz126_1
        try clear hcz132_0
        try clear hcz132_1
        try clear hcz133_0
        try clear hcz133_1
        try clear hcz64_0
        try clear hcz64_1
        try clear hcz69_0
        try clear hcz69_1
        try clear hcz73_0
        try clear hcz73_1
        try clear hcz74_0
        try clear hcz74_1
        try clear hcz85_0
        try clear hcz85_1
        try clear hcz93_0
        try clear hcz93_1
        try clear hfz121_0
        try clear hfz121_1
        try clear hfz126_0
        try clear hfz126_1
        try clear hfz132_0
        try clear hfz132_1
        try clear hfz133_0
        try clear hfz133_1
        try clear hfz64_0
        try clear hfz64_1
        try clear hfz69_0
        try clear hfz69_1
        try clear hfz73_0
        try clear hfz73_1
        try clear hfz74_0
        try clear hfz74_1
        try clear hfz85_0
        try clear hfz85_1
        try clear hfz93_0
        try clear hfz93_1
        try clear hx618_0
        try clear hx619_0
        try clear hx622_0
        try clear hx657_0
        try clear hx696_0
        try clear hx697_0
        try clear p2
        try clear p6
        try clear p61
        try clear p618
        try clear p619
        try clear p62
        try clear p622
        try clear p64
        try clear p65
        try clear p657
        try clear p69
        try clear p696
        try clear p697
        try clear q6
        try clear q61
        try clear q618
        try clear q619
        try clear q62
        try clear q622
        try clear q65
        try clear q657
        try clear q69
        try clear q696
        try clear q697
        obtain ⟨x57_4, x391_4, rfl, rfl, HA, HK4, HO_42, HO_389, HO_677001, BK676, HB⟩ := hrel
        cases gk with
        | zero => exact absurd HA.out (by simp [laws_FnBricksAndLevels.l3])
        | succ k4 =>
         have H := HA.out
         clear HA
         simp only [laws_FnBricksAndLevels.l3] at H
         by_cases c148 : x391_4 < (t668.length : Int)
         rotate_left
         ·rw [if_neg c148] at H
          have c148b0 : decide (x391_4 < (t668.length : Int)) = false := decide_eq_false c148
          clear c148
          obtain ⟨⟨t699, t700⟩, A151, H⟩ := ob_ H
          (try dsimp only at H)
          by_cases c152 : (t672.length : Int) = x57_4
          rotate_left
          ·rw [if_neg c152] at H
           cases H
          rw [if_pos c152] at H
          have c152b0 : ((t672.length : Int) == x57_4) = true := beq_iff_eq.mpr c152
          have c152b1 : ((t672.length : Int) != x57_4) = false := bne_eq_false_iff_eq.mpr c152
          clear c152
          by_cases c153 : t700 = true
          rotate_left
          ·replace c153 := Bool.eq_false_iff.mpr c153
           subst c153
           rw [if_neg (show ¬ (false = true) by decide)] at H
           cases H
          subst c153
          rw [if_pos rfl] at H
          obtain rfl := Option.some.inj H
          have hcz154_0 : wr.cell? ⟨gb676, 0, none⟩ = some (.int .i64 t671) := (blk_cell BK676.out 0).trans rfl
          have hcz154_1 : wr.cell? ⟨gb676, 1, none⟩ = some (.slice Ao122 t672.length co122) := (blk_cell BK676.out 1).trans rfl
          have hfz154_0 := fz_ BK676 0
          have hfz154_1 := fz_ BK676 1
          go_wp2_with (first | ((with_reducible refine gate_callee (f := 30) rfl ?_); refine gm_ (some 402) Tryz.func30 #[.agg #[.int .i64 t671, .slice Ao122 t672.length co122]] rfl ?_; (with_reducible refine (impl_DepthOf.calls k4 t671 _ _ t672 t699 true _ ?side1 ?side2 A151.out).mono ?_); (case side1 => exact Cl_ (Kd.R_reads' HO_677001.out).2.2); (case side2 => exact (Kd.R_reads' HO_677001.out).2.1); rintro e w155 ⟨rfl, hb⟩; refine ⟨_, rfl, ?_⟩; replace HO_42 := a_ (Kd.S_below (Sl_ HO_42.out) hb); replace HO_389 := a_ (Kd.S_below (Sl_ HO_389.out) hb); replace HO_677001 := a_ (Kd.R_below (Rl_ HO_677001.out) hb); replace BK676 := blkB_ BK676 hb; replace HB := Bs_ HB hb; (try clear hb); (try clear hb2); (try clear hk); (try clear hi); have hcz156_0 := cz_ (.int .i64 t671) BK676 0; have hcz156_1 := cz_ (.slice Ao122 t672.length co122) BK676 1; have hfz156_0 := fz_ BK676 0; have hfz156_1 := fz_ BK676 1))
          go_ret
          exact ⟨re_, Bl_ HB⟩
         rw [if_pos c148] at H
         have c148b0 : decide (x391_4 < (t668.length : Int)) = true := decide_eq_true c148
         clear c148
         by_cases c149 : 0 ≤ x391_4
         rotate_left
         ·rw [if_neg c149] at H
          cases H
         rw [if_pos c149] at H
         have c149b0 : decide (0 ≤ x391_4) = true := decide_eq_true c149
         clear c149
         by_cases c150 : x391_4 < (t668.length : Int)
         rotate_left
         ·rw [if_neg c150] at H
          cases H
         rw [if_pos c150] at H
         have c150b0 : decide (x391_4 < (t668.length : Int)) = true := decide_eq_true c150
         clear c150
         have H' := a_ H
         clear H
         have p698 : 0 ≤ (x391_4 : Int) := od_
         have q698 : x391_4 < (t668.length : Int) := od_
         obtain ⟨ad698, A698_0, c698_0, e698, hx698_0, hl698_0, hi698_0⟩ := at_L2 (Kd.S_reads' HO_389.out).2.2 x391_4 p698 q698
         cases e698
         obtain ⟨ce698, hce698, hMe698, hcc698⟩ := Kd.S_get HO_389.out [] x391_4 p698 (by first | exact q698 | exact od_ | (have e_ := (Kd.S_reads' HO_389.out).1; omega))
         obtain ⟨ve698_0, rfl, ge698_0⟩ := hMe698
         have hv698_0 := hcc698 0 _ rfl
         rw [Nat.add_zero, show ((Kd.slice 3 (Kd.int .i64))).sz = 1 from rfl, Nat.mul_one] at hv698_0
         replace hv698_0 := Option.some.inj (hv698_0.symm.trans hx698_0)
         rw [hv698_0] at ge698_0
         have HL698_0 := a_ (show Kd.R (Kd.int .i64) 3 _ _ _ _ (rd_L2 t668 x391_4) from ge698_0)
         clear hv698_0 ge698_0
         clear hcc698 hce698
         have HR698_0 := a_ hi698_0
         have HC698_0 := a_ hl698_0
         clear hi698_0 hl698_0
         replace p698 := eq_true p698
         replace q698 := eq_true q698
         go_wp2
         go_roundg k4
         case measure => have := HJ15.out; have := HJ59.out; have := HJ112.out; have := HK4.out; omega
         case rel => exact ⟨(wrap64 (x57_4 + ((rd_L2 t668 x391_4).length : Int))), (wrap64 (x391_4 + 1)), rs_, rs_, H', ⟨by have := HJ15.out; have := HJ59.out; have := HJ112.out; have := HK4.out; omega⟩, ⟨Sl_ HO_42.out⟩, ⟨Sl_ HO_389.out⟩, ⟨Rl_ HO_677001.out⟩, ⟨bl_ BK676⟩, ⟨Bl_ HB⟩⟩

/-- THE ONE PURE STATEMENT of laws_FnBricksAndLevels: yours. -/
def laws_FnBricksAndLevels.Pure : Prop := ∀ (l0 : List Int) (l1 : List Int), l0.length ≤ maxLen → l0.length * 1 ≤ 140737488351232 → (∀ x ∈ l0, (Lit.int .u8 x).wf = true) → l1.length ≤ maxLen → l1.length * 1 ≤ 140737488351232 → (∀ x ∈ l1, (Lit.int .u8 x).wf = true) → ∃ k, laws_FnBricksAndLevels.f k l0 l1 = some true
theorem laws_FnBricksAndLevels.walk (P : laws_FnBricksAndLevels.Pure) (a0 : Option Addr) (len0 cap0 : Nat) (z0 : List Int) (a1 : Option Addr) (len1 cap1 : Nat) (z1 : List Int) (w : World) (w0 : (a0 = none ∧ len0 = 0 ∧ cap0 = 0 ∧ z0 = []) ∨ ∃ x, a0 = some x ∧ len0 ≤ cap0 ∧ cap0 ≤ maxLen ∧ z0.length = cap0 ∧ (∀ i, i < z0.length → w.cell? (x.add i) = some (.int .u8 (z0.getD i 0))) ∧ ∀ n ∈ z0, (Lit.int .u8 n).wf = true) (y0 : len0 * 1 ≤ 140737488351232) (w1 : (a1 = none ∧ len1 = 0 ∧ cap1 = 0 ∧ z1 = []) ∨ ∃ x, a1 = some x ∧ len1 ≤ cap1 ∧ cap1 ≤ maxLen ∧ z1.length = cap1 ∧ (∀ i, i < z1.length → w.cell? (x.add i) = some (.int .u8 (z1.getD i 0))) ∧ ∀ n ∈ z1, (Lit.int .u8 n).wf = true) (y1 : len1 * 1 ≤ 140737488351232) :
 Calls Tryz.prog 3 #[.slice a0 len0 cap0, .slice a1 len1 cap1] w fun e w' => e = .returned (.bool true) ∧ Below w.heap.size w w' := by
 obtain ⟨l0, rfl, hr0, hm0, hw0, hc0⟩ := ReadsInt.ofRowC w0
 obtain ⟨l1, rfl, hr1, hm1, hw1, hc1⟩ := ReadsInt.ofRowC w1
 obtain ⟨k, h⟩ := P l0 l1 hm0 y0 hw0 hm1 y1 hw1
 refine (laws_FnBricksAndLevels.calls k _ _ l0 _ _ l1 true w (Kd.C_of_reads (d := (0 : Int)) (h1 := fun _ => rfl) hr0) hc0 (Kd.C_of_reads (d := (0 : Int)) (h1 := fun _ => rfl) hr1) hc1 h).mono ?_
 rintro e w' ⟨rfl, hd⟩
 exact ⟨rfl, hd⟩

end Go.Proofs.YtpgbfkgmmkchnaaGreat.B
