-- Texts of this claim, merged by packw.py (a program of this session's).
import Derived.Test.YtkndhjchlnepmaaDoorQFnExactMatrixText3
import Derived.Test.YtkndhjchlnepmaaDoorQFnExactMatrixText5
import Derived.Test.YtkndhjchlnepmaaDoorQFnExactMatrixText8

section
namespace Go.Proofs.YtkndhjchlnepmaaDoor.F
open Go.RowKit Go.Proofs.YtkndhjchlnepmaaDoorW.PrintWords Go.Proofs.YtkndhjchlnepmaaDoorW.PrintLast Go.Proofs.YtkndhjchlnepmaaDoorW.PrintMore
attribute [local go_sem] max2_int min2_int max_two min_two max_three min_three max_four min_four   -- for this text's walks alone
set_option linter.unusedVariables false
set_option linter.unusedSimpArgs false
/-! ### laws_eqInt64S: function 43 -/
def laws_eqInt64S.l0 : Nat → List Int → List Int → Int → Option (Bool)
  | 0, _, _, _ => none
  | k + 1, x0, x1, x5 => if x5 < (x0.length : Int) then (if 0 ≤ x5 then (if x5 < (x1.length : Int) then (if (rd x0 x5) = (rd x1 x5) then (laws_eqInt64S.l0 k x0 x1 (wrap64 (x5 + 1))) else (some false)) else (none)) else (none)) else (some true)
def laws_eqInt64S.f (k : Nat) (l0 : List Int) (l1 : List Int) : Option (Bool) := if (l0.length : Int) = (l1.length : Int) then (laws_eqInt64S.l0 k l0 l1 0) else (some false)
theorem Z43.z2 {P : Prop} (h : P := by first | rfl | (simp; done) | (simp [*]; done)) : P := h
theorem Z43.z1 {P : Prop} (h : P := by repeat (first | exact Drawn0.refl _ | apply Drawn0.step)) : P := h
theorem Z43.z0 {P : Prop} (h : P := by first | (with_reducible assumption) | assumption) : P := h
set_option maxHeartbeats 8000000 in
set_option maxRecDepth 100000 in
theorem laws_eqInt64S.calls (k : Nat) (A0 : Option Addr) (c0 : Nat) (l0 : List Int) (A1 : Option Addr) (c1 : Nat) (l1 : List Int) (r : Bool) (w : World) (hr0 : Kd.C (Kd.int .i64) w A0 l0.length l0) (hc0 : l0.length ≤ c0) (hr1 : Kd.C (Kd.int .i64) w A1 l1.length l1) (hc1 : l1.length ≤ c1) (h : laws_eqInt64S.f k l0 l1 = some r) :
  Calls Tryd.prog 43 #[.slice A0 l0.length c0, .slice A1 l1.length c1] w fun e w' => e = .returned (.bool r) ∧ Drawn0 w w' := by
 have HR0 := Aside0.mk hr0
 have HC0 := Aside0.mk hc0
 clear hr0 hc0
 have HR1 := Aside0.mk hr1
 have HC1 := Aside0.mk hc1
 clear hr1 hc1
 have H : (if (l0.length : Int) = (l1.length : Int) then (laws_eqInt64S.l0 k l0 l1 0) else (some false)) = some r := h
 clear h
 by_cases c3 : (l0.length : Int) = (l1.length : Int)
 ·rw [if_pos c3] at H
  have c3b0 : ((l0.length : Int) == (l1.length : Int)) = true := beq_iff_eq.mpr c3
  have c3b1 : ((l0.length : Int) != (l1.length : Int)) = false := bne_eq_false_iff_eq.mpr c3
  have c3b2 : (l0.length == l1.length) = true := by first | simpa using c3 | (simp at c3 ⊢; omega)
  clear c3
  have H' := Aside0.mk H
  clear H
  go_enter Tryd.func43, Tryd.ntmps43
  go_wp2
  repeat (go_quiet (fail); try go_wp2)
  go_loopg [5] k (fun kq v5 w' => ∃ (x5_1 : Int), v5 = .int .i64 x5_1 ∧ Aside0 (laws_eqInt64S.l0 kq l0 l1 x5_1 = some r) ∧ Aside0 (kq ≤ k) ∧ Drawn0 w w')
  case atStart => exact ⟨(0), Z43.z2, H', ⟨Nat.le_refl _⟩, Z43.z1⟩
  case round =>
   clear H'
   try clear c1
   try clear p2
   try clear c3
   try clear c3b0
   try clear c3b1
   try clear c3b2
   obtain ⟨x5_1, rfl, HA, HK1, ⟨m1, rfl⟩⟩ := hrel
   cases gk with
   | zero => exact absurd HA.out (by simp [laws_eqInt64S.l0])
   | succ k1 =>
    have H := HA.out
    clear HA
    simp only [laws_eqInt64S.l0] at H
    by_cases c4 : x5_1 < (l0.length : Int)
    ·rw [if_pos c4] at H
     have c4b0 : decide (x5_1 < (l0.length : Int)) = true := decide_eq_true c4
     clear c4
     by_cases c5 : 0 ≤ x5_1
     ·rw [if_pos c5] at H
      have c5b0 : decide (0 ≤ x5_1) = true := decide_eq_true c5
      clear c5
      by_cases c6 : x5_1 < (l1.length : Int)
      ·rw [if_pos c6] at H
       have c6b0 : decide (x5_1 < (l1.length : Int)) = true := decide_eq_true c6
       clear c6
       by_cases c7 : (rd l0 x5_1) = (rd l1 x5_1)
       ·rw [if_pos c7] at H
        have c7b0 : ((rd l0 x5_1) == (rd l1 x5_1)) = true := beq_iff_eq.mpr c7
        have c7b1 : ((rd l0 x5_1) != (rd l1 x5_1)) = false := bne_eq_false_iff_eq.mpr c7
        clear c7
        have H' := Aside0.mk H
        clear H
        have p101 : 0 ≤ (x5_1 : Int) := of_decide_eq_true Z43.z0
        have q101 : x5_1 < (l0.length : Int) := of_decide_eq_true Z43.z0
        obtain ⟨ad101, e101, hx101_0⟩ := Kd.at_int HR0.out x5_1 p101 q101
        cases e101
        replace p101 := eq_true p101
        replace q101 := eq_true q101
        have p102 : 0 ≤ (x5_1 : Int) := of_decide_eq_true Z43.z0
        have q102 : x5_1 < (l1.length : Int) := of_decide_eq_true Z43.z0
        obtain ⟨ad102, e102, hx102_0⟩ := Kd.at_int HR1.out x5_1 p102 q102
        cases e102
        replace p102 := eq_true p102
        replace q102 := eq_true q102
        go_wp2
        repeat (go_quiet (fail); try go_wp2)
        go_roundg k1
        case measure => have := HK1.out; omega
        case rel => exact ⟨(wrap64 (x5_1 + 1)), Z43.z2, H', ⟨(by have := HK1.out; omega)⟩, Z43.z1⟩
       rw [if_neg c7] at H
       have c7b0 : ((rd l0 x5_1) == (rd l1 x5_1)) = false := beq_eq_false_iff_ne.mpr c7
       have c7b1 : ((rd l0 x5_1) != (rd l1 x5_1)) = true := bne_iff_ne.mpr c7
       obtain rfl := Option.some.inj H
       have p101 : 0 ≤ (x5_1 : Int) := of_decide_eq_true Z43.z0
       have q101 : x5_1 < (l0.length : Int) := of_decide_eq_true Z43.z0
       obtain ⟨ad101, e101, hx101_0⟩ := Kd.at_int HR0.out x5_1 p101 q101
       cases e101
       replace p101 := eq_true p101
       replace q101 := eq_true q101
       have p102 : 0 ≤ (x5_1 : Int) := of_decide_eq_true Z43.z0
       have q102 : x5_1 < (l1.length : Int) := of_decide_eq_true Z43.z0
       obtain ⟨ad102, e102, hx102_0⟩ := Kd.at_int HR1.out x5_1 p102 q102
       cases e102
       replace p102 := eq_true p102
       replace q102 := eq_true q102
       go_wp2
       repeat (go_quiet (fail); try go_wp2)
       go_ret
       exact ⟨Z43.z2, Z43.z1⟩
      rw [if_neg c6] at H
      exact absurd H (by simp)
     rw [if_neg c5] at H
     exact absurd H (by simp)
    rw [if_neg c4] at H
    have c4b0 : decide (x5_1 < (l0.length : Int)) = false := decide_eq_false c4
    clear c4
    obtain rfl := Option.some.inj H
    go_wp2
    repeat (go_quiet (fail); try go_wp2)
    go_ret
    exact ⟨Z43.z2, Z43.z1⟩
 rw [if_neg c3] at H
 have c3b0 : ((l0.length : Int) == (l1.length : Int)) = false := beq_eq_false_iff_ne.mpr c3
 have c3b1 : ((l0.length : Int) != (l1.length : Int)) = true := bne_iff_ne.mpr c3
 have c3b2 : (l0.length == l1.length) = false := by first | simpa using c3 | (simp at c3 ⊢; omega)
 obtain rfl := Option.some.inj H
 go_enter Tryd.func43, Tryd.ntmps43
 go_wp2
 repeat (go_quiet (fail); try go_wp2)
 go_ret
 exact ⟨Z43.z2, Z43.z1⟩
/-! ### laws_eqMatrix: function 21 -/
def laws_eqMatrix.f (k : Nat) (a0_0 : Int) (a0_1 : Int) (a0_2 : Int) (l0_3 : List Int) (a1_0 : Int) (a1_1 : Int) (a1_2 : Int) (l1_3 : List Int) : Option (Bool) := if a0_0 = a1_0 then (if a0_1 = a1_1 then (if a0_2 = a1_2 then ((laws_eqInt64S.f k l0_3 l1_3).bind fun t103 => (if t103 = true then (some true) else (some false))) else (some false)) else (some false)) else (some false)
theorem Z21.bb {w0 w w1 : World} {g : Nat} {o : Obj} (_B : Aside0 (w0.heap[g]? = some o)) (h : w.heap[g]? = some o) (hb : Below w.heap.size w w1) : w1.heap[g]? = some o := blk_below h hb
theorem Z21.bl {w0 w : World} {g : Nat} {o : Obj} (_B : Aside0 (w0.heap[g]? = some o)) (h : w.heap[g]? = some o) : g < w.heap.size := blk_lt h
theorem Z21.k {p : Prop} (h : p) : Aside0 p := ⟨h⟩
theorem Z21.z11 {P : Prop} (h : P := by (try simp only [List.map_toArray, List.map_cons, List.map_nil]); first | done | rfl | (simp only [List.length_drop, List.length_take]; rfl)) : P := h
theorem Z21.z10 {P : Prop} (h : P := by rw [hg]; exact Nat.ne_of_gt (Z21.bl BK101 Z21.z2)) : P := h
theorem Z21.z9 {P : Prop} (h : P := by rw [hg]; exact Nat.ne_of_lt (Z21.bl BK101 Z21.z2)) : P := h
theorem Z21.z8 {P : Prop} (h : P := by repeat (first | exact (Kd.C_below HR0_3.out HB.out) | (with_reducible refine Kd.C_alloc ?_ _) | (with_reducible refine Kd.C_drewN ?_ _) | (with_reducible refine Kd.C_drew ?_))) : P := h
theorem Z21.z7 {P : Prop} (h : P := by repeat (first | exact (Kd.C_below HR1_3.out HB.out) | (with_reducible refine Kd.C_alloc ?_ _) | (with_reducible refine Kd.C_drewN ?_ _) | (with_reducible refine Kd.C_drew ?_))) : P := h
theorem Z21.z6 {P : Prop} (h : P := by rw [hg]; exact (below_size Z21.z0)) : P := h
theorem Z21.z5 {P : Prop} (h : P := by rw [hg]; exact (below_size Z21.z1)) : P := h
theorem Z21.z4 {P : Prop} (h : P := by first | rfl | (simp [errW_none, errW_some] <;> rfl) | (simp [*, errW_none, errW_some] <;> rfl)) : P := h
theorem Z21.z3 {P : Prop} (h : P := by repeat (first | (with_reducible first | exact HB.out | apply below_alloc | apply pw_below_drewN | apply below_drew1 | refine below_set ?_ GE101.out | refine below_set ?_ GE102.out) | exact HB.out)) : P := h
theorem Z21.z2 {P : Prop} (h : P := by (with_reducible repeat (first | refine blk_drewN ?_ _ | refine blk_drew ?_ | refine blk_alloc ?_ _)); exact BK101.out) : P := h
theorem Z21.z1 {P : Prop} (h : P := by repeat (first | (with_reducible first | exact HB.out | apply below_alloc | apply pw_below_drewN | apply below_drew1) | exact HB.out)) : P := h
theorem Z21.z0 {P : Prop} (h : P := by repeat (first | (with_reducible first | exact HB.out | apply below_alloc | apply pw_below_drewN | apply below_drew1 | refine below_set ?_ GE101.out) | exact HB.out)) : P := h
set_option maxHeartbeats 8000000 in
set_option maxRecDepth 100000 in
theorem laws_eqMatrix.calls (k : Nat) (a0_0 : Int) (a0_1 : Int) (a0_2 : Int) (A0_3 : Option Addr) (c0_3 : Nat) (l0_3 : List Int) (a1_0 : Int) (a1_1 : Int) (a1_2 : Int) (A1_3 : Option Addr) (c1_3 : Nat) (l1_3 : List Int) (r : Bool) (w : World) (hr0_3 : Kd.C (Kd.int .i64) w A0_3 l0_3.length l0_3) (hc0_3 : l0_3.length ≤ c0_3) (hr1_3 : Kd.C (Kd.int .i64) w A1_3 l1_3.length l1_3) (hc1_3 : l1_3.length ≤ c1_3) (h : laws_eqMatrix.f k a0_0 a0_1 a0_2 l0_3 a1_0 a1_1 a1_2 l1_3 = some r) :
  Calls Tryd.prog 21 #[.agg #[.int .i64 a0_0, .int .i64 a0_1, .int .i64 a0_2, .slice A0_3 l0_3.length c0_3], .agg #[.int .i64 a1_0, .int .i64 a1_1, .int .i64 a1_2, .slice A1_3 l1_3.length c1_3]] w fun e w' => e = .returned (.bool r) ∧ Below w.heap.size w w' := by
 have hu42 := Tryd.underlying42
 have HR0_3 := Z21.k hr0_3
 have HC0_3 := Z21.k hc0_3
 clear hr0_3 hc0_3
 have HR1_3 := Z21.k hr1_3
 have HC1_3 := Z21.k hc1_3
 clear hr1_3 hc1_3
 have HB := Z21.k (Below.refl w.heap.size w)
 have H : (if a0_0 = a1_0 then (if a0_1 = a1_1 then (if a0_2 = a1_2 then ((laws_eqInt64S.f k l0_3 l1_3).bind fun t103 => (if t103 = true then (some true) else (some false))) else (some false)) else (some false)) else (some false)) = some r := h
 clear h
 by_cases c3 : a0_0 = a1_0
 ·rw [if_pos c3] at H
  have c3b0 : (a0_0 == a1_0) = true := beq_iff_eq.mpr c3
  have c3b1 : (a0_0 != a1_0) = false := bne_eq_false_iff_eq.mpr c3
  clear c3
  by_cases c4 : a0_1 = a1_1
  ·rw [if_pos c4] at H
   have c4b0 : (a0_1 == a1_1) = true := beq_iff_eq.mpr c4
   have c4b1 : (a0_1 != a1_1) = false := bne_eq_false_iff_eq.mpr c4
   clear c4
   by_cases c5 : a0_2 = a1_2
   ·rw [if_pos c5] at H
    have c5b0 : (a0_2 == a1_2) = true := beq_iff_eq.mpr c5
    have c5b1 : (a0_2 != a1_2) = false := bne_eq_false_iff_eq.mpr c5
    clear c5
    replace H := Option.bind_eq_some_iff.mp H
    obtain ⟨t103, A60, H⟩ := H
    replace H : (if t103 = true then (some true) else (some false)) = some r := H
    have A6 := Z21.k A60
    clear A60
    by_cases c7 : t103 = true
    ·subst c7
     have H1 : (some true) = some r := by rw [if_pos rfl] at H; exact H
     clear H
     have H := H1
     clear H1
     obtain rfl := Option.some.inj H
     go_enter Tryd.func21, Tryd.ntmps21
     go_wp2_with (first | ((with_reducible refine gate_dst (N := 2) rfl ?_); refine box_event ?hg (N := 2) ?hd (cs := #[.int .i64 a0_0, .int .i64 a0_1, .int .i64 a0_2, .slice A0_3 l0_3.length c0_3]) (t := 42) ?hr ?_; (case hd => rfl); (case hg => rfl); (case hr => first | (go_simp; done) | (go_simp; rfl)); intro gb101 hg w8 hbox hb; have n0_ := Z21.k (below_step Z21.z1 hb); have n1_ := Z21.k (hbox); have n2_ := Z21.k (show w.heap.size ≤ gb101 from Z21.z5); have n3_ := Z21.k (show w.heap.size ≤ gb101 from Z21.z5); clear HB; have HB := n0_; have BK101 := n1_; have GW101 := n2_; have GE101 := n3_; clear n0_ n1_ n2_ n3_; clear hb hbox hg) | ((with_reducible refine gate_dst (N := 3) rfl ?_); refine box_event ?hg (N := 3) ?hd (cs := #[.int .i64 a1_0, .int .i64 a1_1, .int .i64 a1_2, .slice A1_3 l1_3.length c1_3]) (t := 42) ?hr ?_; (case hd => rfl); (case hg => rfl); (case hr => first | (go_simp; done) | (go_simp; rfl)); intro gb102 hg w9 hbox hb; have n0_ := Z21.k (Z21.bb BK101 Z21.z2 hb); have n1_ := Z21.k (below_step Z21.z0 hb); have n2_ := Z21.k (hbox); have n3_ := Z21.k (show w.heap.size ≤ gb102 from Z21.z6); have n4_ := Z21.k (show w.heap.size ≤ gb102 from Z21.z6); have n5_ := Z21.k (show gb101 ≠ gb102 from Z21.z9); have n6_ := Z21.k (show gb102 ≠ gb101 from Z21.z10); clear BK101 HB; have BK101 := n0_; have HB := n1_; have BK102 := n2_; have GW102 := n3_; have GE102 := n4_; have NB101_102 := n5_; have NB102_101 := n6_; clear n0_ n1_ n2_ n3_ n4_ n5_ n6_; clear hb hbox hg; have hnb10 := NB101_102.out; have hnc10 := NB102_101.out; have hcz11_0 : w9.cell? ⟨gb101, 0, none⟩ = some (.int .i64 a0_0) := (blk_cell BK101.out 0).trans rfl; have hcz11_1 : w9.cell? ⟨gb101, 1, none⟩ = some (.int .i64 a0_1) := (blk_cell BK101.out 1).trans rfl; have hcz11_2 : w9.cell? ⟨gb101, 2, none⟩ = some (.int .i64 a0_2) := (blk_cell BK101.out 2).trans rfl; have hcz11_3 : w9.cell? ⟨gb101, 3, none⟩ = some (.slice A0_3 l0_3.length c0_3) := (blk_cell BK101.out 3).trans rfl; have hfz11_0 := blk_frozen BK101.out 0; have hfz11_1 := blk_frozen BK101.out 1; have hfz11_2 := blk_frozen BK101.out 2; have hfz11_3 := blk_frozen BK101.out 3; have hcz12_0 : w9.cell? ⟨gb102, 0, none⟩ = some (.int .i64 a1_0) := (blk_cell BK102.out 0).trans rfl; have hcz12_1 : w9.cell? ⟨gb102, 1, none⟩ = some (.int .i64 a1_1) := (blk_cell BK102.out 1).trans rfl; have hcz12_2 : w9.cell? ⟨gb102, 2, none⟩ = some (.int .i64 a1_2) := (blk_cell BK102.out 2).trans rfl; have hcz12_3 : w9.cell? ⟨gb102, 3, none⟩ = some (.slice A1_3 l1_3.length c1_3) := (blk_cell BK102.out 3).trans rfl; have hfz12_0 := blk_frozen BK102.out 0; have hfz12_1 := blk_frozen BK102.out 1; have hfz12_2 := blk_frozen BK102.out 2; have hfz12_3 := blk_frozen BK102.out 3) | ((with_reducible refine gate_callee (f := 43) rfl ?_); refine goesL_ (some 24) rfl rfl Tryd.func43 (by kernel_rfl) rfl #[.slice A0_3 l0_3.length c0_3, .slice A1_3 l1_3.length c1_3] rfl Z21.z11 ?_; (with_reducible refine (laws_eqInt64S.calls k _ _ l0_3 _ _ l1_3 true _ ?side1 ?side2 ?side3 ?side4 A6.out).mono ?_); (case side1 => exact Z21.z8); (case side2 => exact HC0_3.out); (case side3 => exact Z21.z7); (case side4 => exact HC1_3.out); rintro e w' ⟨rfl, ⟨nd, rfl⟩⟩; refine ⟨_, rfl, ?_⟩))
     go_ret
     exact ⟨Z21.z4, Z21.z3⟩
    replace c7 := Bool.eq_false_iff.mpr c7
    subst c7
    have H1 : (some false) = some r := by rw [if_neg (show ¬ (false = true) by decide)] at H; exact H
    clear H
    have H := H1
    clear H1
    obtain rfl := Option.some.inj H
    go_enter Tryd.func21, Tryd.ntmps21
    go_wp2_with (first | ((with_reducible refine gate_dst (N := 2) rfl ?_); refine box_event ?hg (N := 2) ?hd (cs := #[.int .i64 a0_0, .int .i64 a0_1, .int .i64 a0_2, .slice A0_3 l0_3.length c0_3]) (t := 42) ?hr ?_; (case hd => rfl); (case hg => rfl); (case hr => first | (go_simp; done) | (go_simp; rfl)); intro gb101 hg w13 hbox hb; have n0_ := Z21.k (below_step Z21.z1 hb); have n1_ := Z21.k (hbox); have n2_ := Z21.k (show w.heap.size ≤ gb101 from Z21.z5); have n3_ := Z21.k (show w.heap.size ≤ gb101 from Z21.z5); clear HB; have HB := n0_; have BK101 := n1_; have GW101 := n2_; have GE101 := n3_; clear n0_ n1_ n2_ n3_; clear hb hbox hg) | ((with_reducible refine gate_dst (N := 3) rfl ?_); refine box_event ?hg (N := 3) ?hd (cs := #[.int .i64 a1_0, .int .i64 a1_1, .int .i64 a1_2, .slice A1_3 l1_3.length c1_3]) (t := 42) ?hr ?_; (case hd => rfl); (case hg => rfl); (case hr => first | (go_simp; done) | (go_simp; rfl)); intro gb102 hg w14 hbox hb; have n0_ := Z21.k (Z21.bb BK101 Z21.z2 hb); have n1_ := Z21.k (below_step Z21.z0 hb); have n2_ := Z21.k (hbox); have n3_ := Z21.k (show w.heap.size ≤ gb102 from Z21.z6); have n4_ := Z21.k (show w.heap.size ≤ gb102 from Z21.z6); have n5_ := Z21.k (show gb101 ≠ gb102 from Z21.z9); have n6_ := Z21.k (show gb102 ≠ gb101 from Z21.z10); clear BK101 HB; have BK101 := n0_; have HB := n1_; have BK102 := n2_; have GW102 := n3_; have GE102 := n4_; have NB101_102 := n5_; have NB102_101 := n6_; clear n0_ n1_ n2_ n3_ n4_ n5_ n6_; clear hb hbox hg; have hnb15 := NB101_102.out; have hnc15 := NB102_101.out; have hcz16_0 : w14.cell? ⟨gb101, 0, none⟩ = some (.int .i64 a0_0) := (blk_cell BK101.out 0).trans rfl; have hcz16_1 : w14.cell? ⟨gb101, 1, none⟩ = some (.int .i64 a0_1) := (blk_cell BK101.out 1).trans rfl; have hcz16_2 : w14.cell? ⟨gb101, 2, none⟩ = some (.int .i64 a0_2) := (blk_cell BK101.out 2).trans rfl; have hcz16_3 : w14.cell? ⟨gb101, 3, none⟩ = some (.slice A0_3 l0_3.length c0_3) := (blk_cell BK101.out 3).trans rfl; have hfz16_0 := blk_frozen BK101.out 0; have hfz16_1 := blk_frozen BK101.out 1; have hfz16_2 := blk_frozen BK101.out 2; have hfz16_3 := blk_frozen BK101.out 3; have hcz17_0 : w14.cell? ⟨gb102, 0, none⟩ = some (.int .i64 a1_0) := (blk_cell BK102.out 0).trans rfl; have hcz17_1 : w14.cell? ⟨gb102, 1, none⟩ = some (.int .i64 a1_1) := (blk_cell BK102.out 1).trans rfl; have hcz17_2 : w14.cell? ⟨gb102, 2, none⟩ = some (.int .i64 a1_2) := (blk_cell BK102.out 2).trans rfl; have hcz17_3 : w14.cell? ⟨gb102, 3, none⟩ = some (.slice A1_3 l1_3.length c1_3) := (blk_cell BK102.out 3).trans rfl; have hfz17_0 := blk_frozen BK102.out 0; have hfz17_1 := blk_frozen BK102.out 1; have hfz17_2 := blk_frozen BK102.out 2; have hfz17_3 := blk_frozen BK102.out 3) | ((with_reducible refine gate_callee (f := 43) rfl ?_); refine goesL_ (some 24) rfl rfl Tryd.func43 (by kernel_rfl) rfl #[.slice A0_3 l0_3.length c0_3, .slice A1_3 l1_3.length c1_3] rfl Z21.z11 ?_; (with_reducible refine (laws_eqInt64S.calls k _ _ l0_3 _ _ l1_3 false _ ?side1 ?side2 ?side3 ?side4 A6.out).mono ?_); (case side1 => exact Z21.z8); (case side2 => exact HC0_3.out); (case side3 => exact Z21.z7); (case side4 => exact HC1_3.out); rintro e w' ⟨rfl, ⟨nd, rfl⟩⟩; refine ⟨_, rfl, ?_⟩))
    go_ret
    exact ⟨Z21.z4, Z21.z3⟩
   rw [if_neg c5] at H
   have c5b0 : (a0_2 == a1_2) = false := beq_eq_false_iff_ne.mpr c5
   have c5b1 : (a0_2 != a1_2) = true := bne_iff_ne.mpr c5
   obtain rfl := Option.some.inj H
   go_enter Tryd.func21, Tryd.ntmps21
   go_wp2_with (first | ((with_reducible refine gate_dst (N := 2) rfl ?_); refine box_event ?hg (N := 2) ?hd (cs := #[.int .i64 a0_0, .int .i64 a0_1, .int .i64 a0_2, .slice A0_3 l0_3.length c0_3]) (t := 42) ?hr ?_; (case hd => rfl); (case hg => rfl); (case hr => first | (go_simp; done) | (go_simp; rfl)); intro gb101 hg w18 hbox hb; have n0_ := Z21.k (below_step Z21.z1 hb); have n1_ := Z21.k (hbox); have n2_ := Z21.k (show w.heap.size ≤ gb101 from Z21.z5); have n3_ := Z21.k (show w.heap.size ≤ gb101 from Z21.z5); clear HB; have HB := n0_; have BK101 := n1_; have GW101 := n2_; have GE101 := n3_; clear n0_ n1_ n2_ n3_; clear hb hbox hg) | ((with_reducible refine gate_dst (N := 3) rfl ?_); refine box_event ?hg (N := 3) ?hd (cs := #[.int .i64 a1_0, .int .i64 a1_1, .int .i64 a1_2, .slice A1_3 l1_3.length c1_3]) (t := 42) ?hr ?_; (case hd => rfl); (case hg => rfl); (case hr => first | (go_simp; done) | (go_simp; rfl)); intro gb102 hg w19 hbox hb; have n0_ := Z21.k (Z21.bb BK101 Z21.z2 hb); have n1_ := Z21.k (below_step Z21.z0 hb); have n2_ := Z21.k (hbox); have n3_ := Z21.k (show w.heap.size ≤ gb102 from Z21.z6); have n4_ := Z21.k (show w.heap.size ≤ gb102 from Z21.z6); have n5_ := Z21.k (show gb101 ≠ gb102 from Z21.z9); have n6_ := Z21.k (show gb102 ≠ gb101 from Z21.z10); clear BK101 HB; have BK101 := n0_; have HB := n1_; have BK102 := n2_; have GW102 := n3_; have GE102 := n4_; have NB101_102 := n5_; have NB102_101 := n6_; clear n0_ n1_ n2_ n3_ n4_ n5_ n6_; clear hb hbox hg; have hnb20 := NB101_102.out; have hnc20 := NB102_101.out; have hcz21_0 : w19.cell? ⟨gb101, 0, none⟩ = some (.int .i64 a0_0) := (blk_cell BK101.out 0).trans rfl; have hcz21_1 : w19.cell? ⟨gb101, 1, none⟩ = some (.int .i64 a0_1) := (blk_cell BK101.out 1).trans rfl; have hcz21_2 : w19.cell? ⟨gb101, 2, none⟩ = some (.int .i64 a0_2) := (blk_cell BK101.out 2).trans rfl; have hcz21_3 : w19.cell? ⟨gb101, 3, none⟩ = some (.slice A0_3 l0_3.length c0_3) := (blk_cell BK101.out 3).trans rfl; have hfz21_0 := blk_frozen BK101.out 0; have hfz21_1 := blk_frozen BK101.out 1; have hfz21_2 := blk_frozen BK101.out 2; have hfz21_3 := blk_frozen BK101.out 3; have hcz22_0 : w19.cell? ⟨gb102, 0, none⟩ = some (.int .i64 a1_0) := (blk_cell BK102.out 0).trans rfl; have hcz22_1 : w19.cell? ⟨gb102, 1, none⟩ = some (.int .i64 a1_1) := (blk_cell BK102.out 1).trans rfl; have hcz22_2 : w19.cell? ⟨gb102, 2, none⟩ = some (.int .i64 a1_2) := (blk_cell BK102.out 2).trans rfl; have hcz22_3 : w19.cell? ⟨gb102, 3, none⟩ = some (.slice A1_3 l1_3.length c1_3) := (blk_cell BK102.out 3).trans rfl; have hfz22_0 := blk_frozen BK102.out 0; have hfz22_1 := blk_frozen BK102.out 1; have hfz22_2 := blk_frozen BK102.out 2; have hfz22_3 := blk_frozen BK102.out 3))
   go_ret
   exact ⟨Z21.z4, Z21.z3⟩
  rw [if_neg c4] at H
  have c4b0 : (a0_1 == a1_1) = false := beq_eq_false_iff_ne.mpr c4
  have c4b1 : (a0_1 != a1_1) = true := bne_iff_ne.mpr c4
  obtain rfl := Option.some.inj H
  go_enter Tryd.func21, Tryd.ntmps21
  go_wp2_with (first | ((with_reducible refine gate_dst (N := 2) rfl ?_); refine box_event ?hg (N := 2) ?hd (cs := #[.int .i64 a0_0, .int .i64 a0_1, .int .i64 a0_2, .slice A0_3 l0_3.length c0_3]) (t := 42) ?hr ?_; (case hd => rfl); (case hg => rfl); (case hr => first | (go_simp; done) | (go_simp; rfl)); intro gb101 hg w23 hbox hb; have n0_ := Z21.k (below_step Z21.z1 hb); have n1_ := Z21.k (hbox); have n2_ := Z21.k (show w.heap.size ≤ gb101 from Z21.z5); have n3_ := Z21.k (show w.heap.size ≤ gb101 from Z21.z5); clear HB; have HB := n0_; have BK101 := n1_; have GW101 := n2_; have GE101 := n3_; clear n0_ n1_ n2_ n3_; clear hb hbox hg) | ((with_reducible refine gate_dst (N := 3) rfl ?_); refine box_event ?hg (N := 3) ?hd (cs := #[.int .i64 a1_0, .int .i64 a1_1, .int .i64 a1_2, .slice A1_3 l1_3.length c1_3]) (t := 42) ?hr ?_; (case hd => rfl); (case hg => rfl); (case hr => first | (go_simp; done) | (go_simp; rfl)); intro gb102 hg w24 hbox hb; have n0_ := Z21.k (Z21.bb BK101 Z21.z2 hb); have n1_ := Z21.k (below_step Z21.z0 hb); have n2_ := Z21.k (hbox); have n3_ := Z21.k (show w.heap.size ≤ gb102 from Z21.z6); have n4_ := Z21.k (show w.heap.size ≤ gb102 from Z21.z6); have n5_ := Z21.k (show gb101 ≠ gb102 from Z21.z9); have n6_ := Z21.k (show gb102 ≠ gb101 from Z21.z10); clear BK101 HB; have BK101 := n0_; have HB := n1_; have BK102 := n2_; have GW102 := n3_; have GE102 := n4_; have NB101_102 := n5_; have NB102_101 := n6_; clear n0_ n1_ n2_ n3_ n4_ n5_ n6_; clear hb hbox hg; have hnb25 := NB101_102.out; have hnc25 := NB102_101.out; have hcz26_0 : w24.cell? ⟨gb101, 0, none⟩ = some (.int .i64 a0_0) := (blk_cell BK101.out 0).trans rfl; have hcz26_1 : w24.cell? ⟨gb101, 1, none⟩ = some (.int .i64 a0_1) := (blk_cell BK101.out 1).trans rfl; have hcz26_2 : w24.cell? ⟨gb101, 2, none⟩ = some (.int .i64 a0_2) := (blk_cell BK101.out 2).trans rfl; have hcz26_3 : w24.cell? ⟨gb101, 3, none⟩ = some (.slice A0_3 l0_3.length c0_3) := (blk_cell BK101.out 3).trans rfl; have hfz26_0 := blk_frozen BK101.out 0; have hfz26_1 := blk_frozen BK101.out 1; have hfz26_2 := blk_frozen BK101.out 2; have hfz26_3 := blk_frozen BK101.out 3; have hcz27_0 : w24.cell? ⟨gb102, 0, none⟩ = some (.int .i64 a1_0) := (blk_cell BK102.out 0).trans rfl; have hcz27_1 : w24.cell? ⟨gb102, 1, none⟩ = some (.int .i64 a1_1) := (blk_cell BK102.out 1).trans rfl; have hcz27_2 : w24.cell? ⟨gb102, 2, none⟩ = some (.int .i64 a1_2) := (blk_cell BK102.out 2).trans rfl; have hcz27_3 : w24.cell? ⟨gb102, 3, none⟩ = some (.slice A1_3 l1_3.length c1_3) := (blk_cell BK102.out 3).trans rfl; have hfz27_0 := blk_frozen BK102.out 0; have hfz27_1 := blk_frozen BK102.out 1; have hfz27_2 := blk_frozen BK102.out 2; have hfz27_3 := blk_frozen BK102.out 3))
  go_ret
  exact ⟨Z21.z4, Z21.z3⟩
 rw [if_neg c3] at H
 have c3b0 : (a0_0 == a1_0) = false := beq_eq_false_iff_ne.mpr c3
 have c3b1 : (a0_0 != a1_0) = true := bne_iff_ne.mpr c3
 obtain rfl := Option.some.inj H
 go_enter Tryd.func21, Tryd.ntmps21
 go_wp2_with (first | ((with_reducible refine gate_dst (N := 2) rfl ?_); refine box_event ?hg (N := 2) ?hd (cs := #[.int .i64 a0_0, .int .i64 a0_1, .int .i64 a0_2, .slice A0_3 l0_3.length c0_3]) (t := 42) ?hr ?_; (case hd => rfl); (case hg => rfl); (case hr => first | (go_simp; done) | (go_simp; rfl)); intro gb101 hg w28 hbox hb; have n0_ := Z21.k (below_step Z21.z1 hb); have n1_ := Z21.k (hbox); have n2_ := Z21.k (show w.heap.size ≤ gb101 from Z21.z5); have n3_ := Z21.k (show w.heap.size ≤ gb101 from Z21.z5); clear HB; have HB := n0_; have BK101 := n1_; have GW101 := n2_; have GE101 := n3_; clear n0_ n1_ n2_ n3_; clear hb hbox hg) | ((with_reducible refine gate_dst (N := 3) rfl ?_); refine box_event ?hg (N := 3) ?hd (cs := #[.int .i64 a1_0, .int .i64 a1_1, .int .i64 a1_2, .slice A1_3 l1_3.length c1_3]) (t := 42) ?hr ?_; (case hd => rfl); (case hg => rfl); (case hr => first | (go_simp; done) | (go_simp; rfl)); intro gb102 hg w29 hbox hb; have n0_ := Z21.k (Z21.bb BK101 Z21.z2 hb); have n1_ := Z21.k (below_step Z21.z0 hb); have n2_ := Z21.k (hbox); have n3_ := Z21.k (show w.heap.size ≤ gb102 from Z21.z6); have n4_ := Z21.k (show w.heap.size ≤ gb102 from Z21.z6); have n5_ := Z21.k (show gb101 ≠ gb102 from Z21.z9); have n6_ := Z21.k (show gb102 ≠ gb101 from Z21.z10); clear BK101 HB; have BK101 := n0_; have HB := n1_; have BK102 := n2_; have GW102 := n3_; have GE102 := n4_; have NB101_102 := n5_; have NB102_101 := n6_; clear n0_ n1_ n2_ n3_ n4_ n5_ n6_; clear hb hbox hg; have hnb30 := NB101_102.out; have hnc30 := NB102_101.out; have hcz31_0 : w29.cell? ⟨gb101, 0, none⟩ = some (.int .i64 a0_0) := (blk_cell BK101.out 0).trans rfl; have hcz31_1 : w29.cell? ⟨gb101, 1, none⟩ = some (.int .i64 a0_1) := (blk_cell BK101.out 1).trans rfl; have hcz31_2 : w29.cell? ⟨gb101, 2, none⟩ = some (.int .i64 a0_2) := (blk_cell BK101.out 2).trans rfl; have hcz31_3 : w29.cell? ⟨gb101, 3, none⟩ = some (.slice A0_3 l0_3.length c0_3) := (blk_cell BK101.out 3).trans rfl; have hfz31_0 := blk_frozen BK101.out 0; have hfz31_1 := blk_frozen BK101.out 1; have hfz31_2 := blk_frozen BK101.out 2; have hfz31_3 := blk_frozen BK101.out 3; have hcz32_0 : w29.cell? ⟨gb102, 0, none⟩ = some (.int .i64 a1_0) := (blk_cell BK102.out 0).trans rfl; have hcz32_1 : w29.cell? ⟨gb102, 1, none⟩ = some (.int .i64 a1_1) := (blk_cell BK102.out 1).trans rfl; have hcz32_2 : w29.cell? ⟨gb102, 2, none⟩ = some (.int .i64 a1_2) := (blk_cell BK102.out 2).trans rfl; have hcz32_3 : w29.cell? ⟨gb102, 3, none⟩ = some (.slice A1_3 l1_3.length c1_3) := (blk_cell BK102.out 3).trans rfl; have hfz32_0 := blk_frozen BK102.out 0; have hfz32_1 := blk_frozen BK102.out 1; have hfz32_2 := blk_frozen BK102.out 2; have hfz32_3 := blk_frozen BK102.out 3))
 go_ret
 exact ⟨Z21.z4, Z21.z3⟩
/-! ### laws_FnExactMatrixText: function 4 -/
def laws_FnExactMatrixText.f (k : Nat) (a0_0 : Int) (a0_1 : Int) (a0_2 : Int) (l0_3 : List Int) : Option (Bool) := (laws_szMatrix.f a0_0 a0_1 a0_2 l0_3 1048576).bind fun t102 => (if t102 < 0 then (some true) else ((laws_toMatrix.f k a0_0 a0_1 a0_2 l0_3).bind fun bt103 => ((spec_MatrixText.f k bt103.1 bt103.2.1 bt103.2.2.1 bt103.2.2.2).bind fun t109 => ((laws_toMatrix.f k a0_0 a0_1 a0_2 l0_3).bind fun bt110 => ((impl_MatrixText.f k bt110.1 bt110.2.1 bt110.2.2.1 bt110.2.2.2).bind fun t117 => (if t117.toList = t109.toList then ((laws_toMatrix.f k a0_0 a0_1 a0_2 l0_3).bind fun bt118 => ((laws_eqMatrix.f k bt110.1 bt110.2.1 bt110.2.2.1 bt110.2.2.2 bt118.1 bt118.2.1 bt118.2.2.1 bt118.2.2.2).bind fun t124 => (if t124 = true then (some true) else (some false)))) else (some false)))))))
theorem Z4.bb {w0 w w1 : World} {g : Nat} {o : Obj} (_B : Aside0 (w0.heap[g]? = some o)) (h : w.heap[g]? = some o) (hb : Below w.heap.size w w1) : w1.heap[g]? = some o := blk_below h hb
theorem Z4.bl {w0 w : World} {g : Nat} {o : Obj} (_B : Aside0 (w0.heap[g]? = some o)) (h : w.heap[g]? = some o) : g < w.heap.size := blk_lt h
theorem Z4.k {p : Prop} (h : p) : Aside0 p := ⟨h⟩
theorem Z4.z19 {P : Prop} (h : P := by repeat (first | exact (Kd.R_reads' HO115.out).2.2 | (with_reducible refine Kd.C_alloc ?_ _) | (with_reducible refine Kd.C_drewN ?_ _) | (with_reducible refine Kd.C_drew ?_))) : P := h
theorem Z4.z18 {P : Prop} (h : P := by repeat (first | exact (Kd.R_reads' HO123.out).2.2 | (with_reducible refine Kd.C_alloc ?_ _) | (with_reducible refine Kd.C_drewN ?_ _) | (with_reducible refine Kd.C_drew ?_))) : P := h
theorem Z4.z17 {P : Prop} (h : P := by first | rfl | (simp [errW_none, errW_some] <;> rfl) | (simp [*, errW_none, errW_some] <;> rfl)) : P := h
theorem Z4.z16 {P : Prop} (h : P := by (repeat (first | (with_reducible first | refine blk_drewN ?_ _ | refine blk_drew ?_ | refine blk_alloc ?_ _) | refine blk_far ?_ NB101_116.out _)); exact BK101.out) : P := h
theorem Z4.z15 {P : Prop} (h : P := by (with_reducible repeat (first | refine blk_drewN ?_ _ | refine blk_drew ?_ | refine blk_alloc ?_ _)); exact BK116.out) : P := h
theorem Z4.z14 {P : Prop} (h : P := by repeat (first | exact (Kd.R_reads' HO108.out).2.2 | (with_reducible refine Kd.C_alloc ?_ _) | (with_reducible refine Kd.C_drewN ?_ _) | (with_reducible refine Kd.C_drew ?_))) : P := h
theorem Z4.z13 {P : Prop} (h : P := by simp only [Act.put, List.setIfInBounds_toArray, List.set_cons_zero, List.set_cons_succ, i64_w, i32_w]; rfl) : P := h
theorem Z4.z12 {P : Prop} (h : P := by (with_reducible repeat (first | apply Kd.R_alloc | apply Kd.R_drewN | apply Kd.R_drew)); exact (Kd.R_mono (Kd.R_far (p := ⟨gb116, 3, none⟩) (Kd.R_far (p := ⟨gb116, 2, none⟩) (Kd.R_far (p := ⟨gb116, 1, none⟩) (Kd.R_far (p := ⟨gb116, 0, none⟩) (Kd.R_types HO115.out BK116.out (by decide)) (fun _ hk => hk.2) (.int .i64 t110)) (fun _ hk => hk.2) (.int .i64 t111)) (fun _ hk => hk.2) (.int .i64 t112)) (fun _ hk => hk.2) (.slice Ao27 t113.length co27)) (fun _ h_ => h_.1))) : P := h
theorem Z4.z11 {P : Prop} (h : P := by (with_reducible repeat (first | apply Kd.R_alloc | apply Kd.R_drewN | apply Kd.R_drew)); exact (Kd.R_mono (Kd.R_far (p := ⟨gb116, 3, none⟩) (Kd.R_far (p := ⟨gb116, 2, none⟩) (Kd.R_far (p := ⟨gb116, 1, none⟩) (Kd.R_far (p := ⟨gb116, 0, none⟩) (Kd.R_types HO115.out BK116.out (by decide)) (fun _ hk => hk.2) (.int .i64 t110)) (fun _ hk => hk.2) (.int .i64 t111)) (fun _ hk => hk.2) (.int .i64 t112)) (fun _ hk => hk.2) (.slice Ao45 t113.length co45)) (fun _ h_ => h_.1))) : P := h
theorem Z4.z10 {P : Prop} (h : P := by (with_reducible repeat (first | apply Kd.R_alloc | apply Kd.R_drewN | apply Kd.R_drew)); exact (Kd.R_mono (Kd.R_far (p := ⟨gb116, 3, none⟩) (Kd.R_far (p := ⟨gb116, 2, none⟩) (Kd.R_far (p := ⟨gb116, 1, none⟩) (Kd.R_far (p := ⟨gb116, 0, none⟩) (Kd.R_types HO115.out BK116.out (by decide)) (fun _ hk => hk.2) (.int .i64 t110)) (fun _ hk => hk.2) (.int .i64 t111)) (fun _ hk => hk.2) (.int .i64 t112)) (fun _ hk => hk.2) (.slice Ao63 t113.length co63)) (fun _ h_ => h_.1))) : P := h
theorem Z4.z9 {P : Prop} (h : P := by (with_reducible repeat (first | apply Kd.R_alloc | apply Kd.R_drewN | apply Kd.R_drew)); exact HO115.out) : P := h
theorem Z4.z8 {P : Prop} (h : P := by repeat (first | (with_reducible first | exact HB.out | apply below_alloc | apply pw_below_drewN | apply below_drew1) | exact HB.out)) : P := h
theorem Z4.z7 {P : Prop} (h : P := by exact ⟨(blk_cell BK116.out 0).trans rfl, (blk_cell BK116.out 1).trans rfl, (blk_cell BK116.out 2).trans rfl, (blk_cell BK116.out 3).trans rfl, (blk_cell BK101.out 0).trans rfl, (blk_cell BK101.out 1).trans rfl, (blk_cell BK101.out 2).trans rfl, (blk_cell BK101.out 3).trans rfl⟩) : P := h
theorem Z4.z6 {P : Prop} (h : P := by (with_reducible repeat (first | apply Kd.R_alloc | apply Kd.R_drewN | apply Kd.R_drew)); exact HO108.out) : P := h
theorem Z4.z5 {P : Prop} (h : P := by repeat (first | exact (Kd.C_below HR0_3.out HB.out) | (with_reducible refine Kd.C_alloc ?_ _) | (with_reducible refine Kd.C_drewN ?_ _) | (with_reducible refine Kd.C_drew ?_))) : P := h
theorem Z4.z4 {P : Prop} (h : P := by (with_reducible repeat (first | refine blk_drewN ?_ _ | refine blk_drew ?_ | refine blk_alloc ?_ _)); refine blk_put (cs := #[.int .i64 t110, .int .i64 t111, .int .i64 t112, .slice none 0 0]) ?_ 3 _ rfl; (with_reducible repeat (first | refine blk_drewN ?_ _ | refine blk_drew ?_ | refine blk_alloc ?_ _)); refine blk_put (cs := #[.int .i64 t110, .int .i64 t111, .int .i64 0, .slice none 0 0]) ?_ 2 _ rfl; (with_reducible repeat (first | refine blk_drewN ?_ _ | refine blk_drew ?_ | refine blk_alloc ?_ _)); refine blk_put (cs := #[.int .i64 t110, .int .i64 0, .int .i64 0, .slice none 0 0]) ?_ 1 _ rfl; (with_reducible repeat (first | refine blk_drewN ?_ _ | refine blk_drew ?_ | refine blk_alloc ?_ _)); refine blk_put (cs := #[.int .i64 0, .int .i64 0, .int .i64 0, .slice none 0 0]) ?_ 0 _ rfl; (with_reducible repeat (first | refine blk_drewN ?_ _ | refine blk_drew ?_ | refine blk_alloc ?_ _)); exact BK116.out) : P := h
theorem Z4.z3 {P : Prop} (h : P := by (try simp only [List.map_toArray, List.map_cons, List.map_nil]); first | done | rfl | (simp only [List.length_drop, List.length_take]; rfl)) : P := h
theorem Z4.z2 {P : Prop} (h : P := by (with_reducible repeat (first | refine blk_drewN ?_ _ | refine blk_drew ?_ | refine blk_alloc ?_ _)); exact BK101.out) : P := h
theorem Z4.z1 {P : Prop} (h : P := by repeat (first | (with_reducible first | exact HB.out | apply below_alloc | apply pw_below_drewN | apply below_drew1 | refine below_set ?_ GE101.out | refine below_set ?_ GE116.out) | exact HB.out)) : P := h
theorem Z4.z0 {P : Prop} (h : P := by repeat (first | (with_reducible first | exact HB.out | apply below_alloc | apply pw_below_drewN | apply below_drew1 | refine below_set ?_ GE101.out) | exact HB.out)) : P := h
set_option maxHeartbeats 8000000 in
set_option maxRecDepth 100000 in
theorem laws_FnExactMatrixText.calls (k : Nat) (a0_0 : Int) (a0_1 : Int) (a0_2 : Int) (A0_3 : Option Addr) (c0_3 : Nat) (l0_3 : List Int) (r : Bool) (w : World) (hr0_3 : Kd.C (Kd.int .i64) w A0_3 l0_3.length l0_3) (hc0_3 : l0_3.length ≤ c0_3) (hlP_ : LaidP w) (h : laws_FnExactMatrixText.f k a0_0 a0_1 a0_2 l0_3 = some r) :
  Calls Tryd.prog 4 #[.agg #[.int .i64 a0_0, .int .i64 a0_1, .int .i64 a0_2, .slice A0_3 l0_3.length c0_3]] w fun e w' => e = .returned (.bool r) ∧ Below w.heap.size w w' := by
 have hu39 := Tryd.underlying39
 have hu42 := Tryd.underlying42
 have HR0_3 := Z4.k hr0_3
 have HC0_3 := Z4.k hc0_3
 clear hr0_3 hc0_3
 have HB := Z4.k (Below.refl w.heap.size w)
 have H : ((laws_szMatrix.f a0_0 a0_1 a0_2 l0_3 1048576).bind fun t102 => (if t102 < 0 then (some true) else ((laws_toMatrix.f k a0_0 a0_1 a0_2 l0_3).bind fun bt103 => ((spec_MatrixText.f k bt103.1 bt103.2.1 bt103.2.2.1 bt103.2.2.2).bind fun t109 => ((laws_toMatrix.f k a0_0 a0_1 a0_2 l0_3).bind fun bt110 => ((impl_MatrixText.f k bt110.1 bt110.2.1 bt110.2.2.1 bt110.2.2.2).bind fun t117 => (if t117.toList = t109.toList then ((laws_toMatrix.f k a0_0 a0_1 a0_2 l0_3).bind fun bt118 => ((laws_eqMatrix.f k bt110.1 bt110.2.1 bt110.2.2.1 bt110.2.2.2 bt118.1 bt118.2.1 bt118.2.2.1 bt118.2.2.2).bind fun t124 => (if t124 = true then (some true) else (some false)))) else (some false)))))))) = some r := h
 clear h
 replace H := Option.bind_eq_some_iff.mp H
 obtain ⟨t102, A20, H⟩ := H
 replace H : (if t102 < 0 then (some true) else ((laws_toMatrix.f k a0_0 a0_1 a0_2 l0_3).bind fun bt103 => ((spec_MatrixText.f k bt103.1 bt103.2.1 bt103.2.2.1 bt103.2.2.2).bind fun t109 => ((laws_toMatrix.f k a0_0 a0_1 a0_2 l0_3).bind fun bt110 => ((impl_MatrixText.f k bt110.1 bt110.2.1 bt110.2.2.1 bt110.2.2.2).bind fun t117 => (if t117.toList = t109.toList then ((laws_toMatrix.f k a0_0 a0_1 a0_2 l0_3).bind fun bt118 => ((laws_eqMatrix.f k bt110.1 bt110.2.1 bt110.2.2.1 bt110.2.2.2 bt118.1 bt118.2.1 bt118.2.2.1 bt118.2.2.2).bind fun t124 => (if t124 = true then (some true) else (some false)))) else (some false))))))) = some r := H
 have A2 := Z4.k A20
 clear A20
 by_cases c3 : t102 < 0
 ·rw [if_pos c3] at H
  have c3b0 : decide (t102 < 0) = true := decide_eq_true c3
  clear c3
  obtain rfl := Option.some.inj H
  go_enter Tryd.func4, Tryd.ntmps4
  go_wp2_with (first | ((with_reducible refine gate_dst (N := 1) rfl ?_); refine box_event ?hg (N := 1) ?hd (cs := #[.int .i64 a0_0, .int .i64 a0_1, .int .i64 a0_2, .slice A0_3 l0_3.length c0_3]) (t := 39) ?hr ?_; (case hd => rfl); (case hg => rfl); (case hr => first | (go_simp; done) | (go_simp; rfl)); intro gb101 hg w4 hbox hb; have n0_ := Z4.k (below_step Z4.z8 hb); have n1_ := Z4.k (hbox); have n2_ := Z4.k (show w.heap.size ≤ gb101 from (by rw [hg]; exact (below_size Z4.z8))); have n3_ := Z4.k (show w.heap.size ≤ gb101 from (by rw [hg]; exact (below_size Z4.z8))); clear HB; have HB := n0_; have BK101 := n1_; have GW101 := n2_; have GE101 := n3_; clear n0_ n1_ n2_ n3_; clear hb hbox hg; have hcz5_0 : w4.cell? ⟨gb101, 0, none⟩ = some (.int .i64 a0_0) := (blk_cell BK101.out 0).trans rfl; have hcz5_1 : w4.cell? ⟨gb101, 1, none⟩ = some (.int .i64 a0_1) := (blk_cell BK101.out 1).trans rfl; have hcz5_2 : w4.cell? ⟨gb101, 2, none⟩ = some (.int .i64 a0_2) := (blk_cell BK101.out 2).trans rfl; have hcz5_3 : w4.cell? ⟨gb101, 3, none⟩ = some (.slice A0_3 l0_3.length c0_3) := (blk_cell BK101.out 3).trans rfl; have hfz5_0 := blk_frozen BK101.out 0; have hfz5_1 := blk_frozen BK101.out 1; have hfz5_2 := blk_frozen BK101.out 2; have hfz5_3 := blk_frozen BK101.out 3) | ((with_reducible refine gate_callee (f := 17) rfl ?_); refine goesL_ (some 9) rfl rfl Tryd.func17 (by kernel_rfl) rfl #[.agg #[.int .i64 a0_0, .int .i64 a0_1, .int .i64 a0_2, .slice A0_3 l0_3.length c0_3], .int .i64 1048576] rfl Z4.z3 ?_; (with_reducible refine (laws_szMatrix.calls a0_0 a0_1 a0_2 _ _ l0_3 1048576 t102 _ ?side1 ?side2 A2.out).mono ?_); (case side1 => exact Z4.z5); (case side2 => exact HC0_3.out); rintro e w6 ⟨rfl, hb⟩; refine ⟨_, rfl, ?_⟩; have n0_ := Z4.k (Z4.bb BK101 Z4.z2 hb); have n1_ := Z4.k (below_step Z4.z0 hb); clear BK101 HB; have BK101 := n0_; have HB := n1_; clear n0_ n1_; (try clear hb); (try clear hb2); (try clear hk); (try clear hi)))
  go_ret
  exact ⟨Z4.z17, Z4.z0⟩
 rw [if_neg c3] at H
 have c3b0 : decide (t102 < 0) = false := decide_eq_false c3
 clear c3
 replace H := Option.bind_eq_some_iff.mp H
 obtain ⟨⟨t103, t104, t105, t106⟩, A70, H⟩ := H
 replace H : ((spec_MatrixText.f k t103 t104 t105 t106).bind fun t109 => ((laws_toMatrix.f k a0_0 a0_1 a0_2 l0_3).bind fun bt110 => ((impl_MatrixText.f k bt110.1 bt110.2.1 bt110.2.2.1 bt110.2.2.2).bind fun t117 => (if t117.toList = t109.toList then ((laws_toMatrix.f k a0_0 a0_1 a0_2 l0_3).bind fun bt118 => ((laws_eqMatrix.f k bt110.1 bt110.2.1 bt110.2.2.1 bt110.2.2.2 bt118.1 bt118.2.1 bt118.2.2.1 bt118.2.2.2).bind fun t124 => (if t124 = true then (some true) else (some false)))) else (some false))))) = some r := H
 have A7 := Z4.k A70
 clear A70
 replace H := Option.bind_eq_some_iff.mp H
 obtain ⟨t109, A80, H⟩ := H
 replace H : ((laws_toMatrix.f k a0_0 a0_1 a0_2 l0_3).bind fun bt110 => ((impl_MatrixText.f k bt110.1 bt110.2.1 bt110.2.2.1 bt110.2.2.2).bind fun t117 => (if t117.toList = t109.toList then ((laws_toMatrix.f k a0_0 a0_1 a0_2 l0_3).bind fun bt118 => ((laws_eqMatrix.f k bt110.1 bt110.2.1 bt110.2.2.1 bt110.2.2.2 bt118.1 bt118.2.1 bt118.2.2.1 bt118.2.2.2).bind fun t124 => (if t124 = true then (some true) else (some false)))) else (some false)))) = some r := H
 have A8 := Z4.k A80
 clear A80
 replace H := Option.bind_eq_some_iff.mp H
 obtain ⟨⟨t110, t111, t112, t113⟩, A90, H⟩ := H
 replace H : ((impl_MatrixText.f k t110 t111 t112 t113).bind fun t117 => (if t117.toList = t109.toList then ((laws_toMatrix.f k a0_0 a0_1 a0_2 l0_3).bind fun bt118 => ((laws_eqMatrix.f k t110 t111 t112 t113 bt118.1 bt118.2.1 bt118.2.2.1 bt118.2.2.2).bind fun t124 => (if t124 = true then (some true) else (some false)))) else (some false))) = some r := H
 have A9 := Z4.k A90
 clear A90
 replace H := Option.bind_eq_some_iff.mp H
 obtain ⟨t117, A100, H⟩ := H
 replace H : (if t117.toList = t109.toList then ((laws_toMatrix.f k a0_0 a0_1 a0_2 l0_3).bind fun bt118 => ((laws_eqMatrix.f k t110 t111 t112 t113 bt118.1 bt118.2.1 bt118.2.2.1 bt118.2.2.2).bind fun t124 => (if t124 = true then (some true) else (some false)))) else (some false)) = some r := H
 have A10 := Z4.k A100
 clear A100
 by_cases c11 : t117.toList = t109.toList
 ·rw [if_pos c11] at H
  have c11b0 : (t117.toList == t109.toList) = true := beq_iff_eq.mpr c11
  have c11b1 : (t117.toList != t109.toList) = false := bne_eq_false_iff_eq.mpr c11
  clear c11
  replace H := Option.bind_eq_some_iff.mp H
  obtain ⟨⟨t118, t119, t120, t121⟩, A120, H⟩ := H
  replace H : ((laws_eqMatrix.f k t110 t111 t112 t113 t118 t119 t120 t121).bind fun t124 => (if t124 = true then (some true) else (some false))) = some r := H
  have A12 := Z4.k A120
  clear A120
  replace H := Option.bind_eq_some_iff.mp H
  obtain ⟨t124, A130, H⟩ := H
  replace H : (if t124 = true then (some true) else (some false)) = some r := H
  have A13 := Z4.k A130
  clear A130
  by_cases c14 : t124 = true
  ·subst c14
   have H1 : (some true) = some r := by rw [if_pos rfl] at H; exact H
   clear H
   have H := H1
   clear H1
   obtain rfl := Option.some.inj H
   go_enter Tryd.func4, Tryd.ntmps4
   try go_wp2_with (first | ((with_reducible refine gate_dst (N := 1) rfl ?_); refine box_event ?hg (N := 1) ?hd (cs := #[.int .i64 a0_0, .int .i64 a0_1, .int .i64 a0_2, .slice A0_3 l0_3.length c0_3]) (t := 39) ?hr ?_; (case hd => rfl); (case hg => rfl); (case hr => first | (go_simp; done) | (go_simp; rfl)); intro gb101 hg w15 hbox hb; have n0_ := Z4.k (below_step Z4.z8 hb); have n1_ := Z4.k (hbox); have n2_ := Z4.k (show w.heap.size ≤ gb101 from (by rw [hg]; exact (below_size Z4.z8))); have n3_ := Z4.k (show w.heap.size ≤ gb101 from (by rw [hg]; exact (below_size Z4.z8))); clear HB; have HB := n0_; have BK101 := n1_; have GW101 := n2_; have GE101 := n3_; clear n0_ n1_ n2_ n3_; clear hb hbox hg; have hcz16_0 : w15.cell? ⟨gb101, 0, none⟩ = some (.int .i64 a0_0) := (blk_cell BK101.out 0).trans rfl; have hcz16_1 : w15.cell? ⟨gb101, 1, none⟩ = some (.int .i64 a0_1) := (blk_cell BK101.out 1).trans rfl; have hcz16_2 : w15.cell? ⟨gb101, 2, none⟩ = some (.int .i64 a0_2) := (blk_cell BK101.out 2).trans rfl; have hcz16_3 : w15.cell? ⟨gb101, 3, none⟩ = some (.slice A0_3 l0_3.length c0_3) := (blk_cell BK101.out 3).trans rfl; have hfz16_0 := blk_frozen BK101.out 0; have hfz16_1 := blk_frozen BK101.out 1; have hfz16_2 := blk_frozen BK101.out 2; have hfz16_3 := blk_frozen BK101.out 3) | ((with_reducible refine gate_callee (f := 17) rfl ?_); refine goesL_ (some 9) rfl rfl Tryd.func17 (by kernel_rfl) rfl #[.agg #[.int .i64 a0_0, .int .i64 a0_1, .int .i64 a0_2, .slice A0_3 l0_3.length c0_3], .int .i64 1048576] rfl Z4.z3 ?_; (with_reducible refine (laws_szMatrix.calls a0_0 a0_1 a0_2 _ _ l0_3 1048576 t102 _ ?side1 ?side2 A2.out).mono ?_); (case side1 => exact Z4.z5); (case side2 => exact HC0_3.out); rintro e w17 ⟨rfl, hb⟩; refine ⟨_, rfl, ?_⟩; have n0_ := Z4.k (Z4.bb BK101 Z4.z2 hb); have n1_ := Z4.k (below_step Z4.z0 hb); clear BK101 HB; have BK101 := n0_; have HB := n1_; clear n0_ n1_; (try clear hb); (try clear hb2); (try clear hk); (try clear hi); have hcz18_0 : w17.cell? ⟨gb101, 0, none⟩ = some (.int .i64 a0_0) := (blk_cell BK101.out 0).trans rfl; have hcz18_1 : w17.cell? ⟨gb101, 1, none⟩ = some (.int .i64 a0_1) := (blk_cell BK101.out 1).trans rfl; have hcz18_2 : w17.cell? ⟨gb101, 2, none⟩ = some (.int .i64 a0_2) := (blk_cell BK101.out 2).trans rfl; have hcz18_3 : w17.cell? ⟨gb101, 3, none⟩ = some (.slice A0_3 l0_3.length c0_3) := (blk_cell BK101.out 3).trans rfl; have hfz18_0 := blk_frozen BK101.out 0; have hfz18_1 := blk_frozen BK101.out 1; have hfz18_2 := blk_frozen BK101.out 2; have hfz18_3 := blk_frozen BK101.out 3) | ((with_reducible refine gate_callee (f := 19) rfl ?_); refine goesL_ (some 13) rfl rfl Tryd.func19 (by kernel_rfl) rfl #[.agg #[.int .i64 a0_0, .int .i64 a0_1, .int .i64 a0_2, .slice A0_3 l0_3.length c0_3]] rfl Z4.z3 ?_; (with_reducible refine (laws_toMatrix.calls k a0_0 a0_1 a0_2 _ _ l0_3 t103 t104 t105 t106 _ ?side1 ?side2 A7.out).mono ?_); (case side1 => exact Z4.z5); (case side2 => exact HC0_3.out); rintro e w19 ⟨v107, rfl, ho0, hb⟩; refine ⟨_, rfl, ?_⟩; have n0_ := Z4.k (Kd.R_lower ho0 (below_size Z4.z0)); have n1_ := Z4.k (Z4.bb BK101 Z4.z2 hb); have n2_ := Z4.k (below_step Z4.z0 hb); clear BK101 HB; have HO108 := n0_; have BK101 := n1_; have HB := n2_; clear n0_ n1_ n2_; (try clear hb); (try clear hb2); (try clear hk); (try clear hi); (try clear ho0); obtain ⟨Ao20, co20, eo20⟩ := Kd.R_slice HO108.out; subst eo20) | ((with_reducible refine gate_callee (f := 18) rfl ?_); refine goesL_ (some 14) rfl rfl Tryd.func18 (by kernel_rfl) rfl #[.agg #[.int .i64 t103, .int .i64 t104, .int .i64 t105, .slice Ao20 t106.length co20]] rfl Z4.z3 ?_; (with_reducible refine (spec_MatrixText.calls k t103 t104 t105 _ _ t106 t109 _ ?side1 ?side2 A8.out).mono ?_); (case side1 => exact Z4.z14); (case side2 => exact (Kd.R_reads' HO108.out).2.1); rintro e w21 ⟨rfl, hb⟩; refine ⟨_, rfl, ?_⟩; have n0_ := Z4.k (Kd.R_below Z4.z6 hb); have n1_ := Z4.k (Z4.bb BK101 Z4.z2 hb); have n2_ := Z4.k (below_step Z4.z0 hb); clear HO108 BK101 HB; have HO108 := n0_; have BK101 := n1_; have HB := n2_; clear n0_ n1_ n2_; (try clear hb); (try clear hb2); (try clear hk); (try clear hi); have hcz22_0 : w21.cell? ⟨gb101, 0, none⟩ = some (.int .i64 a0_0) := (blk_cell BK101.out 0).trans rfl; have hcz22_1 : w21.cell? ⟨gb101, 1, none⟩ = some (.int .i64 a0_1) := (blk_cell BK101.out 1).trans rfl; have hcz22_2 : w21.cell? ⟨gb101, 2, none⟩ = some (.int .i64 a0_2) := (blk_cell BK101.out 2).trans rfl; have hcz22_3 : w21.cell? ⟨gb101, 3, none⟩ = some (.slice A0_3 l0_3.length c0_3) := (blk_cell BK101.out 3).trans rfl; have hfz22_0 := blk_frozen BK101.out 0; have hfz22_1 := blk_frozen BK101.out 1; have hfz22_2 := blk_frozen BK101.out 2; have hfz22_3 := blk_frozen BK101.out 3) | ((with_reducible refine gate_callee (f := 19) rfl ?_); refine goesL_ (some 16) rfl rfl Tryd.func19 (by kernel_rfl) rfl #[.agg #[.int .i64 a0_0, .int .i64 a0_1, .int .i64 a0_2, .slice A0_3 l0_3.length c0_3]] rfl Z4.z3 ?_; (with_reducible refine (laws_toMatrix.calls k a0_0 a0_1 a0_2 _ _ l0_3 t110 t111 t112 t113 _ ?side1 ?side2 A9.out).mono ?_); (case side1 => exact Z4.z5); (case side2 => exact HC0_3.out); rintro e w23 ⟨v114, rfl, ho0, hb⟩; refine ⟨_, rfl, ?_⟩; have n0_ := Z4.k (Kd.R_elder' Z4.z6 (Kd.R_base ho0) hb); have n1_ := Z4.k (Kd.R_lower (Kd.R_new' ho0 (Kd.R_lt Z4.z6)) (below_size Z4.z0)); have n2_ := Z4.k (Z4.bb BK101 Z4.z2 hb); have n3_ := Z4.k (below_step Z4.z0 hb); clear HO108 BK101 HB; have HO108 := n0_; have HO115 := n1_; have BK101 := n2_; have HB := n3_; clear n0_ n1_ n2_ n3_; (try clear hb); (try clear hb2); (try clear hk); (try clear hi); (try clear ho0)) | ((with_reducible refine gate_dst (N := 5) rfl ?_); refine box_event ?hg (N := 5) ?hd (cs := #[.int .i64 0, .int .i64 0, .int .i64 0, .slice none 0 0]) (t := 42) ?hr ?_; (case hd => rfl); (case hg => rfl); (case hr => first | (go_simp; done) | (go_simp; rfl)); intro gb116 hg w24 hbox hb; have n0_ := Z4.k (Kd.R_below Z4.z6 hb); have n1_ := Z4.k (Kd.R_below Z4.z9 hb); have n2_ := Z4.k (Z4.bb BK101 Z4.z2 hb); have n3_ := Z4.k (below_step Z4.z0 hb); have n4_ := Z4.k (hbox); have n5_ := Z4.k (show w.heap.size ≤ gb116 from (by rw [hg]; exact (below_size Z4.z0))); have n6_ := Z4.k (show w.heap.size ≤ gb116 from (by rw [hg]; exact (below_size Z4.z0))); have n7_ := Z4.k (show gb101 ≠ gb116 from (by rw [hg]; exact Nat.ne_of_lt (Z4.bl BK101 Z4.z2))); have n8_ := Z4.k (show gb116 ≠ gb101 from (by rw [hg]; exact Nat.ne_of_gt (Z4.bl BK101 Z4.z2))); clear HO108 HO115 BK101 HB; have HO108 := n0_; have HO115 := n1_; have BK101 := n2_; have HB := n3_; have BK116 := n4_; have GW116 := n5_; have GE116 := n6_; have NB101_116 := n7_; have NB116_101 := n8_; clear n0_ n1_ n2_ n3_ n4_ n5_ n6_ n7_ n8_; clear hb hbox hg; have hnb25 := NB116_101.out; have hnc25 := NB101_116.out; have hcz26_0 : w24.cell? ⟨gb116, 0, none⟩ = some (.int .i64 0) := (blk_cell BK116.out 0).trans rfl; have hcz26_1 : w24.cell? ⟨gb116, 1, none⟩ = some (.int .i64 0) := (blk_cell BK116.out 1).trans rfl; have hcz26_2 : w24.cell? ⟨gb116, 2, none⟩ = some (.int .i64 0) := (blk_cell BK116.out 2).trans rfl; have hcz26_3 : w24.cell? ⟨gb116, 3, none⟩ = some (.slice none 0 0) := (blk_cell BK116.out 3).trans rfl; have hfz26_0 := blk_frozen BK116.out 0; have hfz26_1 := blk_frozen BK116.out 1; have hfz26_2 := blk_frozen BK116.out 2; have hfz26_3 := blk_frozen BK116.out 3; obtain ⟨Ao27, co27, eo27⟩ := Kd.R_slice HO115.out; subst eo27) | ((with_reducible refine gate_callee (f := 20) rfl ?_); refine goesL_ (some 18) rfl rfl Tryd.func20 (by kernel_rfl) rfl #[.agg #[.int .i64 t110, .int .i64 t111, .int .i64 t112, .slice Ao27 t113.length co27]] rfl Z4.z3 ?_; (with_reducible refine (impl_MatrixText.calls k t110 t111 t112 _ _ t113 t117 _ ?side1 ?side2 ?side3 A10.out).mono ?_); (case side1 => exact (by refine (Kd.R_reads' (e := 2) (base := w.heap.size) (ok := fun k_ => (True ∧ some k_ ≠ (.slice Ao20 t106.length co20 : Value).ownBlock)) (n := t113.length) (c := co27) ?_).2.2; exact Z4.z12)); (case side2 => exact (Kd.R_reads' HO115.out).2.1); (case side3 => exact (by exact LaidP.below hlP_ Z4.z1)); rintro e w28 ⟨rfl, hb⟩; refine ⟨_, rfl, ?_⟩; have n0_ := Z4.k (Kd.R_below (by (with_reducible repeat (first | apply Kd.R_alloc | apply Kd.R_drewN | apply Kd.R_drew)); exact (Kd.R_mono (Kd.R_far (p := ⟨gb116, 3, none⟩) (Kd.R_far (p := ⟨gb116, 2, none⟩) (Kd.R_far (p := ⟨gb116, 1, none⟩) (Kd.R_far (p := ⟨gb116, 0, none⟩) (Kd.R_types HO108.out BK116.out (by decide)) (fun _ hk => hk.2) (.int .i64 t110)) (fun _ hk => hk.2) (.int .i64 t111)) (fun _ hk => hk.2) (.int .i64 t112)) (fun _ hk => hk.2) (.slice Ao27 t113.length co27)) (fun _ h_ => h_.1))) hb); have n1_ := Z4.k (Kd.R_below Z4.z12 hb); have n2_ := Z4.k (Z4.bb BK101 Z4.z16 hb); have n3_ := Z4.k (blk_below (g := gb116) (o := .cells #[.int .i64 t110, .int .i64 t111, .int .i64 t112, .slice Ao27 t113.length co27] 42 (0, 0)) Z4.z4 hb); have n4_ := Z4.k (below_step Z4.z1 hb); clear HO108 HO115 BK101 BK116 HB; have HO108 := n0_; have HO115 := n1_; have BK101 := n2_; have BK116 := n3_; have HB := n4_; clear n0_ n1_ n2_ n3_ n4_; (try clear hb); (try clear hb2); (try clear hk); (try clear hi)))
   have n0_ := Z4.k (Kd.R_drew HO108.out)
   have n1_ := Z4.k (Kd.R_drew HO115.out)
   have n2_ := Z4.k (blk_drew BK101.out)
   have n3_ := Z4.k (blk_drew BK116.out)
   have n4_ := Z4.k (below_drew1 HB.out)
   clear HO108 HO115 BK101 BK116 HB
   have HO108 := n0_
   have HO115 := n1_
   have BK101 := n2_
   have BK116 := n3_
   have HB := n4_
   clear n0_ n1_ n2_ n3_ n4_
   refine start_ (n := 5) (S := fun w' => w'.cell? ⟨gb116, 0, none⟩ = some (.int .i64 t110) ∧ w'.cell? ⟨gb116, 1, none⟩ = some (.int .i64 t111) ∧ w'.cell? ⟨gb116, 2, none⟩ = some (.int .i64 t112) ∧ w'.cell? ⟨gb116, 3, none⟩ = some (.slice Ao27 t113.length co27) ∧ w'.cell? ⟨gb101, 0, none⟩ = some (.int .i64 a0_0) ∧ w'.cell? ⟨gb101, 1, none⟩ = some (.int .i64 a0_1) ∧ w'.cell? ⟨gb101, 2, none⟩ = some (.int .i64 a0_2) ∧ w'.cell? ⟨gb101, 3, none⟩ = some (.slice A0_3 l0_3.length c0_3)) (ds := []) #[false, false, false, false, false] (by kernel_rfl) rfl rfl Z4.z7 (fun hHeld => ?_)
   generalize w28.drew = w29 at HO108 HO115 BK101 BK116 HB hHeld ⊢
   refine take_ (i := 0) (N := some 22) (v := ?_) (a' := ?_) #[true, false, false, false, false] rfl rfl (by kernel_rfl) (fun _ _ _ h => h) (Or.inl ⟨(by rfl), ?_⟩) hHeld ?_ ?_
   rotate_left
   ·rintro w' ⟨s0, s1, s2, s3, s4, s5, s6, s7⟩
    go_simp
    with_reducible rfl
   rotate_left
   ·exact Z4.z13
   refine take_ (i := 1) (N := some 23) (v := ?_) (a' := ?_) #[true, true, false, false, false] rfl rfl (by kernel_rfl) (fun _ _ _ h => h) (Or.inl ⟨(by rfl), ?_⟩) hHeld ?_ ?_
   rotate_left
   ·rintro w' ⟨s0, s1, s2, s3, s4, s5, s6, s7⟩
    go_simp
    with_reducible rfl
   rotate_left
   ·exact Z4.z13
   refine one_ (i := 2) (N := some 24) #[true, true, true, false, false] rfl rfl (by kernel_rfl) (by decide) (fun K hK => ?_)
   refine goes_ Tryd.func19 (by kernel_rfl) rfl #[.agg #[.int .i64 a0_0, .int .i64 a0_1, .int .i64 a0_2, .slice A0_3 l0_3.length c0_3]] (by rfl) rfl rfl Z4.z3 ?_
   with_reducible refine (laws_toMatrix.calls k a0_0 a0_1 a0_2 _ _ l0_3 t118 t119 t120 t121 _ ?side1 ?side2 A12.out).mono ?_
   (case side1 => exact Z4.z5)
   (case side2 => exact HC0_3.out)
   rintro e w30 ⟨v122, rfl, ho0, hb⟩
   refine ⟨_, rfl, ?_⟩
   have n0_ := Z4.k (Kd.R_elder' Z4.z6 (Kd.R_base ho0) hb)
   have n1_ := Z4.k (Kd.R_elder' Z4.z9 (Kd.R_base ho0) hb)
   have n2_ := Z4.k (Kd.R_lower (Kd.R_new' (Kd.R_new' ho0 (Kd.R_lt Z4.z6)) (Kd.R_lt Z4.z9)) (below_size Z4.z1))
   have n3_ := Z4.k (Z4.bb BK101 Z4.z2 hb)
   have n4_ := Z4.k (Z4.bb BK116 Z4.z15 hb)
   have n5_ := Z4.k (below_step Z4.z1 hb)
   clear HO108 HO115 BK101 BK116 HB
   have HO108 := n0_
   have HO115 := n1_
   have HO123 := n2_
   have BK101 := n3_
   have BK116 := n4_
   have HB := n5_
   clear n0_ n1_ n2_ n3_ n4_ n5_
   (try clear hb)
   (try clear hb2)
   (try clear hk)
   (try clear hi)
   (try clear ho0)
   obtain ⟨Ao31, co31, eo31⟩ := Kd.R_slice HO123.out
   (first | subst eo31 | (injection eo31 with f1_ f2_ f3_; have f4_ := f1_.symm; have f5_ := f3_.symm; clear f1_ f2_ f3_; subst f4_; subst f5_))
   refine hK.out _ _ Z4.z7 (fun hHeld => ?_)
   clear hK K
   refine norm_ (a' := ?_) ?_ ?_
   rotate_left
   ·show Act.put _ (some 24) _ = _
    simp only [Act.put, List.setIfInBounds_toArray, List.set_cons_zero, List.set_cons_succ, i64_w, i32_w]
    rfl
   refine one_ (i := 3) (N := some 25) #[true, true, true, true, false] rfl rfl (by kernel_rfl) (by decide) (fun K hK => ?_)
   refine goes_ Tryd.func21 (by kernel_rfl) rfl #[.agg #[.int .i64 t110, .int .i64 t111, .int .i64 t112, .slice Ao27 t113.length co27], .agg #[.int .i64 t118, .int .i64 t119, .int .i64 t120, .slice Ao31 t121.length co31]] (by rfl) rfl rfl Z4.z3 ?_
   with_reducible refine (laws_eqMatrix.calls k t110 t111 t112 _ _ t113 t118 t119 t120 _ _ t121 true _ ?side1 ?side2 ?side3 ?side4 A13.out).mono ?_
   (case side1 => exact Z4.z19)
   (case side2 => exact (Kd.R_reads' HO115.out).2.1)
   (case side3 => exact Z4.z18)
   (case side4 => exact (Kd.R_reads' HO123.out).2.1)
   rintro e w32 ⟨rfl, hb⟩
   refine ⟨_, rfl, ?_⟩
   have n0_ := Z4.k (Kd.R_below Z4.z6 hb)
   have n1_ := Z4.k (Kd.R_below Z4.z9 hb)
   have n2_ := Z4.k (Kd.R_below (by (with_reducible repeat (first | apply Kd.R_alloc | apply Kd.R_drewN | apply Kd.R_drew)); exact HO123.out) hb)
   have n3_ := Z4.k (Z4.bb BK101 Z4.z2 hb)
   have n4_ := Z4.k (Z4.bb BK116 Z4.z15 hb)
   have n5_ := Z4.k (below_step Z4.z1 hb)
   clear HO108 HO115 HO123 BK101 BK116 HB
   have HO108 := n0_
   have HO115 := n1_
   have HO123 := n2_
   have BK101 := n3_
   have BK116 := n4_
   have HB := n5_
   clear n0_ n1_ n2_ n3_ n4_ n5_
   (try clear hb)
   (try clear hb2)
   (try clear hk)
   (try clear hi)
   refine hK.out _ _ Z4.z7 (fun hHeld => ?_)
   clear hK K
   refine norm_ (a' := ?_) ?_ ?_
   rotate_left
   ·show Act.put _ (some 25) _ = _
    simp only [Act.put, List.setIfInBounds_toArray, List.set_cons_zero, List.set_cons_succ, i64_w, i32_w]
    rfl
   refine pure_ (i := 4) (N := some 26) (v := ?_) (a' := ?_) #[true, true, true, true, true] rfl rfl (by kernel_rfl) (fun _ _ _ h => h) (Or.inl ⟨(by rfl), ?_⟩) ?_ ?_
   rotate_left
   ·intro w'
    go_simp
    with_reducible rfl
   rotate_left
   ·exact Z4.z13
   refine done_ (by kernel_rfl) ?_
   try go_wp2
   go_ret
   exact ⟨Z4.z17, Z4.z1⟩
  replace c14 := Bool.eq_false_iff.mpr c14
  subst c14
  have H1 : (some false) = some r := by rw [if_neg (show ¬ (false = true) by decide)] at H; exact H
  clear H
  have H := H1
  clear H1
  obtain rfl := Option.some.inj H
  go_enter Tryd.func4, Tryd.ntmps4
  try go_wp2_with (first | ((with_reducible refine gate_dst (N := 1) rfl ?_); refine box_event ?hg (N := 1) ?hd (cs := #[.int .i64 a0_0, .int .i64 a0_1, .int .i64 a0_2, .slice A0_3 l0_3.length c0_3]) (t := 39) ?hr ?_; (case hd => rfl); (case hg => rfl); (case hr => first | (go_simp; done) | (go_simp; rfl)); intro gb101 hg w33 hbox hb; have n0_ := Z4.k (below_step Z4.z8 hb); have n1_ := Z4.k (hbox); have n2_ := Z4.k (show w.heap.size ≤ gb101 from (by rw [hg]; exact (below_size Z4.z8))); have n3_ := Z4.k (show w.heap.size ≤ gb101 from (by rw [hg]; exact (below_size Z4.z8))); clear HB; have HB := n0_; have BK101 := n1_; have GW101 := n2_; have GE101 := n3_; clear n0_ n1_ n2_ n3_; clear hb hbox hg; have hcz34_0 : w33.cell? ⟨gb101, 0, none⟩ = some (.int .i64 a0_0) := (blk_cell BK101.out 0).trans rfl; have hcz34_1 : w33.cell? ⟨gb101, 1, none⟩ = some (.int .i64 a0_1) := (blk_cell BK101.out 1).trans rfl; have hcz34_2 : w33.cell? ⟨gb101, 2, none⟩ = some (.int .i64 a0_2) := (blk_cell BK101.out 2).trans rfl; have hcz34_3 : w33.cell? ⟨gb101, 3, none⟩ = some (.slice A0_3 l0_3.length c0_3) := (blk_cell BK101.out 3).trans rfl; have hfz34_0 := blk_frozen BK101.out 0; have hfz34_1 := blk_frozen BK101.out 1; have hfz34_2 := blk_frozen BK101.out 2; have hfz34_3 := blk_frozen BK101.out 3) | ((with_reducible refine gate_callee (f := 17) rfl ?_); refine goesL_ (some 9) rfl rfl Tryd.func17 (by kernel_rfl) rfl #[.agg #[.int .i64 a0_0, .int .i64 a0_1, .int .i64 a0_2, .slice A0_3 l0_3.length c0_3], .int .i64 1048576] rfl Z4.z3 ?_; (with_reducible refine (laws_szMatrix.calls a0_0 a0_1 a0_2 _ _ l0_3 1048576 t102 _ ?side1 ?side2 A2.out).mono ?_); (case side1 => exact Z4.z5); (case side2 => exact HC0_3.out); rintro e w35 ⟨rfl, hb⟩; refine ⟨_, rfl, ?_⟩; have n0_ := Z4.k (Z4.bb BK101 Z4.z2 hb); have n1_ := Z4.k (below_step Z4.z0 hb); clear BK101 HB; have BK101 := n0_; have HB := n1_; clear n0_ n1_; (try clear hb); (try clear hb2); (try clear hk); (try clear hi); have hcz36_0 : w35.cell? ⟨gb101, 0, none⟩ = some (.int .i64 a0_0) := (blk_cell BK101.out 0).trans rfl; have hcz36_1 : w35.cell? ⟨gb101, 1, none⟩ = some (.int .i64 a0_1) := (blk_cell BK101.out 1).trans rfl; have hcz36_2 : w35.cell? ⟨gb101, 2, none⟩ = some (.int .i64 a0_2) := (blk_cell BK101.out 2).trans rfl; have hcz36_3 : w35.cell? ⟨gb101, 3, none⟩ = some (.slice A0_3 l0_3.length c0_3) := (blk_cell BK101.out 3).trans rfl; have hfz36_0 := blk_frozen BK101.out 0; have hfz36_1 := blk_frozen BK101.out 1; have hfz36_2 := blk_frozen BK101.out 2; have hfz36_3 := blk_frozen BK101.out 3) | ((with_reducible refine gate_callee (f := 19) rfl ?_); refine goesL_ (some 13) rfl rfl Tryd.func19 (by kernel_rfl) rfl #[.agg #[.int .i64 a0_0, .int .i64 a0_1, .int .i64 a0_2, .slice A0_3 l0_3.length c0_3]] rfl Z4.z3 ?_; (with_reducible refine (laws_toMatrix.calls k a0_0 a0_1 a0_2 _ _ l0_3 t103 t104 t105 t106 _ ?side1 ?side2 A7.out).mono ?_); (case side1 => exact Z4.z5); (case side2 => exact HC0_3.out); rintro e w37 ⟨v107, rfl, ho0, hb⟩; refine ⟨_, rfl, ?_⟩; have n0_ := Z4.k (Kd.R_lower ho0 (below_size Z4.z0)); have n1_ := Z4.k (Z4.bb BK101 Z4.z2 hb); have n2_ := Z4.k (below_step Z4.z0 hb); clear BK101 HB; have HO108 := n0_; have BK101 := n1_; have HB := n2_; clear n0_ n1_ n2_; (try clear hb); (try clear hb2); (try clear hk); (try clear hi); (try clear ho0); obtain ⟨Ao38, co38, eo38⟩ := Kd.R_slice HO108.out; subst eo38) | ((with_reducible refine gate_callee (f := 18) rfl ?_); refine goesL_ (some 14) rfl rfl Tryd.func18 (by kernel_rfl) rfl #[.agg #[.int .i64 t103, .int .i64 t104, .int .i64 t105, .slice Ao38 t106.length co38]] rfl Z4.z3 ?_; (with_reducible refine (spec_MatrixText.calls k t103 t104 t105 _ _ t106 t109 _ ?side1 ?side2 A8.out).mono ?_); (case side1 => exact Z4.z14); (case side2 => exact (Kd.R_reads' HO108.out).2.1); rintro e w39 ⟨rfl, hb⟩; refine ⟨_, rfl, ?_⟩; have n0_ := Z4.k (Kd.R_below Z4.z6 hb); have n1_ := Z4.k (Z4.bb BK101 Z4.z2 hb); have n2_ := Z4.k (below_step Z4.z0 hb); clear HO108 BK101 HB; have HO108 := n0_; have BK101 := n1_; have HB := n2_; clear n0_ n1_ n2_; (try clear hb); (try clear hb2); (try clear hk); (try clear hi); have hcz40_0 : w39.cell? ⟨gb101, 0, none⟩ = some (.int .i64 a0_0) := (blk_cell BK101.out 0).trans rfl; have hcz40_1 : w39.cell? ⟨gb101, 1, none⟩ = some (.int .i64 a0_1) := (blk_cell BK101.out 1).trans rfl; have hcz40_2 : w39.cell? ⟨gb101, 2, none⟩ = some (.int .i64 a0_2) := (blk_cell BK101.out 2).trans rfl; have hcz40_3 : w39.cell? ⟨gb101, 3, none⟩ = some (.slice A0_3 l0_3.length c0_3) := (blk_cell BK101.out 3).trans rfl; have hfz40_0 := blk_frozen BK101.out 0; have hfz40_1 := blk_frozen BK101.out 1; have hfz40_2 := blk_frozen BK101.out 2; have hfz40_3 := blk_frozen BK101.out 3) | ((with_reducible refine gate_callee (f := 19) rfl ?_); refine goesL_ (some 16) rfl rfl Tryd.func19 (by kernel_rfl) rfl #[.agg #[.int .i64 a0_0, .int .i64 a0_1, .int .i64 a0_2, .slice A0_3 l0_3.length c0_3]] rfl Z4.z3 ?_; (with_reducible refine (laws_toMatrix.calls k a0_0 a0_1 a0_2 _ _ l0_3 t110 t111 t112 t113 _ ?side1 ?side2 A9.out).mono ?_); (case side1 => exact Z4.z5); (case side2 => exact HC0_3.out); rintro e w41 ⟨v114, rfl, ho0, hb⟩; refine ⟨_, rfl, ?_⟩; have n0_ := Z4.k (Kd.R_elder' Z4.z6 (Kd.R_base ho0) hb); have n1_ := Z4.k (Kd.R_lower (Kd.R_new' ho0 (Kd.R_lt Z4.z6)) (below_size Z4.z0)); have n2_ := Z4.k (Z4.bb BK101 Z4.z2 hb); have n3_ := Z4.k (below_step Z4.z0 hb); clear HO108 BK101 HB; have HO108 := n0_; have HO115 := n1_; have BK101 := n2_; have HB := n3_; clear n0_ n1_ n2_ n3_; (try clear hb); (try clear hb2); (try clear hk); (try clear hi); (try clear ho0)) | ((with_reducible refine gate_dst (N := 5) rfl ?_); refine box_event ?hg (N := 5) ?hd (cs := #[.int .i64 0, .int .i64 0, .int .i64 0, .slice none 0 0]) (t := 42) ?hr ?_; (case hd => rfl); (case hg => rfl); (case hr => first | (go_simp; done) | (go_simp; rfl)); intro gb116 hg w42 hbox hb; have n0_ := Z4.k (Kd.R_below Z4.z6 hb); have n1_ := Z4.k (Kd.R_below Z4.z9 hb); have n2_ := Z4.k (Z4.bb BK101 Z4.z2 hb); have n3_ := Z4.k (below_step Z4.z0 hb); have n4_ := Z4.k (hbox); have n5_ := Z4.k (show w.heap.size ≤ gb116 from (by rw [hg]; exact (below_size Z4.z0))); have n6_ := Z4.k (show w.heap.size ≤ gb116 from (by rw [hg]; exact (below_size Z4.z0))); have n7_ := Z4.k (show gb101 ≠ gb116 from (by rw [hg]; exact Nat.ne_of_lt (Z4.bl BK101 Z4.z2))); have n8_ := Z4.k (show gb116 ≠ gb101 from (by rw [hg]; exact Nat.ne_of_gt (Z4.bl BK101 Z4.z2))); clear HO108 HO115 BK101 HB; have HO108 := n0_; have HO115 := n1_; have BK101 := n2_; have HB := n3_; have BK116 := n4_; have GW116 := n5_; have GE116 := n6_; have NB101_116 := n7_; have NB116_101 := n8_; clear n0_ n1_ n2_ n3_ n4_ n5_ n6_ n7_ n8_; clear hb hbox hg; have hnb43 := NB116_101.out; have hnc43 := NB101_116.out; have hcz44_0 : w42.cell? ⟨gb116, 0, none⟩ = some (.int .i64 0) := (blk_cell BK116.out 0).trans rfl; have hcz44_1 : w42.cell? ⟨gb116, 1, none⟩ = some (.int .i64 0) := (blk_cell BK116.out 1).trans rfl; have hcz44_2 : w42.cell? ⟨gb116, 2, none⟩ = some (.int .i64 0) := (blk_cell BK116.out 2).trans rfl; have hcz44_3 : w42.cell? ⟨gb116, 3, none⟩ = some (.slice none 0 0) := (blk_cell BK116.out 3).trans rfl; have hfz44_0 := blk_frozen BK116.out 0; have hfz44_1 := blk_frozen BK116.out 1; have hfz44_2 := blk_frozen BK116.out 2; have hfz44_3 := blk_frozen BK116.out 3; obtain ⟨Ao45, co45, eo45⟩ := Kd.R_slice HO115.out; subst eo45) | ((with_reducible refine gate_callee (f := 20) rfl ?_); refine goesL_ (some 18) rfl rfl Tryd.func20 (by kernel_rfl) rfl #[.agg #[.int .i64 t110, .int .i64 t111, .int .i64 t112, .slice Ao45 t113.length co45]] rfl Z4.z3 ?_; (with_reducible refine (impl_MatrixText.calls k t110 t111 t112 _ _ t113 t117 _ ?side1 ?side2 ?side3 A10.out).mono ?_); (case side1 => exact (by refine (Kd.R_reads' (e := 2) (base := w.heap.size) (ok := fun k_ => (True ∧ some k_ ≠ (.slice Ao38 t106.length co38 : Value).ownBlock)) (n := t113.length) (c := co45) ?_).2.2; exact Z4.z11)); (case side2 => exact (Kd.R_reads' HO115.out).2.1); (case side3 => exact (by exact LaidP.below hlP_ Z4.z1)); rintro e w46 ⟨rfl, hb⟩; refine ⟨_, rfl, ?_⟩; have n0_ := Z4.k (Kd.R_below (by (with_reducible repeat (first | apply Kd.R_alloc | apply Kd.R_drewN | apply Kd.R_drew)); exact (Kd.R_mono (Kd.R_far (p := ⟨gb116, 3, none⟩) (Kd.R_far (p := ⟨gb116, 2, none⟩) (Kd.R_far (p := ⟨gb116, 1, none⟩) (Kd.R_far (p := ⟨gb116, 0, none⟩) (Kd.R_types HO108.out BK116.out (by decide)) (fun _ hk => hk.2) (.int .i64 t110)) (fun _ hk => hk.2) (.int .i64 t111)) (fun _ hk => hk.2) (.int .i64 t112)) (fun _ hk => hk.2) (.slice Ao45 t113.length co45)) (fun _ h_ => h_.1))) hb); have n1_ := Z4.k (Kd.R_below Z4.z11 hb); have n2_ := Z4.k (Z4.bb BK101 Z4.z16 hb); have n3_ := Z4.k (blk_below (g := gb116) (o := .cells #[.int .i64 t110, .int .i64 t111, .int .i64 t112, .slice Ao45 t113.length co45] 42 (0, 0)) Z4.z4 hb); have n4_ := Z4.k (below_step Z4.z1 hb); clear HO108 HO115 BK101 BK116 HB; have HO108 := n0_; have HO115 := n1_; have BK101 := n2_; have BK116 := n3_; have HB := n4_; clear n0_ n1_ n2_ n3_ n4_; (try clear hb); (try clear hb2); (try clear hk); (try clear hi)))
  have n0_ := Z4.k (Kd.R_drew HO108.out)
  have n1_ := Z4.k (Kd.R_drew HO115.out)
  have n2_ := Z4.k (blk_drew BK101.out)
  have n3_ := Z4.k (blk_drew BK116.out)
  have n4_ := Z4.k (below_drew1 HB.out)
  clear HO108 HO115 BK101 BK116 HB
  have HO108 := n0_
  have HO115 := n1_
  have BK101 := n2_
  have BK116 := n3_
  have HB := n4_
  clear n0_ n1_ n2_ n3_ n4_
  refine start_ (n := 5) (S := fun w' => w'.cell? ⟨gb116, 0, none⟩ = some (.int .i64 t110) ∧ w'.cell? ⟨gb116, 1, none⟩ = some (.int .i64 t111) ∧ w'.cell? ⟨gb116, 2, none⟩ = some (.int .i64 t112) ∧ w'.cell? ⟨gb116, 3, none⟩ = some (.slice Ao45 t113.length co45) ∧ w'.cell? ⟨gb101, 0, none⟩ = some (.int .i64 a0_0) ∧ w'.cell? ⟨gb101, 1, none⟩ = some (.int .i64 a0_1) ∧ w'.cell? ⟨gb101, 2, none⟩ = some (.int .i64 a0_2) ∧ w'.cell? ⟨gb101, 3, none⟩ = some (.slice A0_3 l0_3.length c0_3)) (ds := []) #[false, false, false, false, false] (by kernel_rfl) rfl rfl Z4.z7 (fun hHeld => ?_)
  generalize w46.drew = w47 at HO108 HO115 BK101 BK116 HB hHeld ⊢
  refine take_ (i := 0) (N := some 22) (v := ?_) (a' := ?_) #[true, false, false, false, false] rfl rfl (by kernel_rfl) (fun _ _ _ h => h) (Or.inl ⟨(by rfl), ?_⟩) hHeld ?_ ?_
  rotate_left
  ·rintro w' ⟨s0, s1, s2, s3, s4, s5, s6, s7⟩
   go_simp
   with_reducible rfl
  rotate_left
  ·exact Z4.z13
  refine take_ (i := 1) (N := some 23) (v := ?_) (a' := ?_) #[true, true, false, false, false] rfl rfl (by kernel_rfl) (fun _ _ _ h => h) (Or.inl ⟨(by rfl), ?_⟩) hHeld ?_ ?_
  rotate_left
  ·rintro w' ⟨s0, s1, s2, s3, s4, s5, s6, s7⟩
   go_simp
   with_reducible rfl
  rotate_left
  ·exact Z4.z13
  refine one_ (i := 2) (N := some 24) #[true, true, true, false, false] rfl rfl (by kernel_rfl) (by decide) (fun K hK => ?_)
  refine goes_ Tryd.func19 (by kernel_rfl) rfl #[.agg #[.int .i64 a0_0, .int .i64 a0_1, .int .i64 a0_2, .slice A0_3 l0_3.length c0_3]] (by rfl) rfl rfl Z4.z3 ?_
  with_reducible refine (laws_toMatrix.calls k a0_0 a0_1 a0_2 _ _ l0_3 t118 t119 t120 t121 _ ?side1 ?side2 A12.out).mono ?_
  (case side1 => exact Z4.z5)
  (case side2 => exact HC0_3.out)
  rintro e w48 ⟨v122, rfl, ho0, hb⟩
  refine ⟨_, rfl, ?_⟩
  have n0_ := Z4.k (Kd.R_elder' Z4.z6 (Kd.R_base ho0) hb)
  have n1_ := Z4.k (Kd.R_elder' Z4.z9 (Kd.R_base ho0) hb)
  have n2_ := Z4.k (Kd.R_lower (Kd.R_new' (Kd.R_new' ho0 (Kd.R_lt Z4.z6)) (Kd.R_lt Z4.z9)) (below_size Z4.z1))
  have n3_ := Z4.k (Z4.bb BK101 Z4.z2 hb)
  have n4_ := Z4.k (Z4.bb BK116 Z4.z15 hb)
  have n5_ := Z4.k (below_step Z4.z1 hb)
  clear HO108 HO115 BK101 BK116 HB
  have HO108 := n0_
  have HO115 := n1_
  have HO123 := n2_
  have BK101 := n3_
  have BK116 := n4_
  have HB := n5_
  clear n0_ n1_ n2_ n3_ n4_ n5_
  (try clear hb)
  (try clear hb2)
  (try clear hk)
  (try clear hi)
  (try clear ho0)
  obtain ⟨Ao49, co49, eo49⟩ := Kd.R_slice HO123.out
  (first | subst eo49 | (injection eo49 with f1_ f2_ f3_; have f4_ := f1_.symm; have f5_ := f3_.symm; clear f1_ f2_ f3_; subst f4_; subst f5_))
  refine hK.out _ _ Z4.z7 (fun hHeld => ?_)
  clear hK K
  refine norm_ (a' := ?_) ?_ ?_
  rotate_left
  ·show Act.put _ (some 24) _ = _
   simp only [Act.put, List.setIfInBounds_toArray, List.set_cons_zero, List.set_cons_succ, i64_w, i32_w]
   rfl
  refine one_ (i := 3) (N := some 25) #[true, true, true, true, false] rfl rfl (by kernel_rfl) (by decide) (fun K hK => ?_)
  refine goes_ Tryd.func21 (by kernel_rfl) rfl #[.agg #[.int .i64 t110, .int .i64 t111, .int .i64 t112, .slice Ao45 t113.length co45], .agg #[.int .i64 t118, .int .i64 t119, .int .i64 t120, .slice Ao49 t121.length co49]] (by rfl) rfl rfl Z4.z3 ?_
  with_reducible refine (laws_eqMatrix.calls k t110 t111 t112 _ _ t113 t118 t119 t120 _ _ t121 false _ ?side1 ?side2 ?side3 ?side4 A13.out).mono ?_
  (case side1 => exact Z4.z19)
  (case side2 => exact (Kd.R_reads' HO115.out).2.1)
  (case side3 => exact Z4.z18)
  (case side4 => exact (Kd.R_reads' HO123.out).2.1)
  rintro e w50 ⟨rfl, hb⟩
  refine ⟨_, rfl, ?_⟩
  have n0_ := Z4.k (Kd.R_below Z4.z6 hb)
  have n1_ := Z4.k (Kd.R_below Z4.z9 hb)
  have n2_ := Z4.k (Kd.R_below (by (with_reducible repeat (first | apply Kd.R_alloc | apply Kd.R_drewN | apply Kd.R_drew)); exact HO123.out) hb)
  have n3_ := Z4.k (Z4.bb BK101 Z4.z2 hb)
  have n4_ := Z4.k (Z4.bb BK116 Z4.z15 hb)
  have n5_ := Z4.k (below_step Z4.z1 hb)
  clear HO108 HO115 HO123 BK101 BK116 HB
  have HO108 := n0_
  have HO115 := n1_
  have HO123 := n2_
  have BK101 := n3_
  have BK116 := n4_
  have HB := n5_
  clear n0_ n1_ n2_ n3_ n4_ n5_
  (try clear hb)
  (try clear hb2)
  (try clear hk)
  (try clear hi)
  refine hK.out _ _ Z4.z7 (fun hHeld => ?_)
  clear hK K
  refine norm_ (a' := ?_) ?_ ?_
  rotate_left
  ·show Act.put _ (some 25) _ = _
   simp only [Act.put, List.setIfInBounds_toArray, List.set_cons_zero, List.set_cons_succ, i64_w, i32_w]
   rfl
  refine pure_ (i := 4) (N := some 26) (v := ?_) (a' := ?_) #[true, true, true, true, true] rfl rfl (by kernel_rfl) (fun _ _ _ h => h) (Or.inl ⟨(by rfl), ?_⟩) ?_ ?_
  rotate_left
  ·intro w'
   go_simp
   with_reducible rfl
  rotate_left
  ·exact Z4.z13
  refine done_ (by kernel_rfl) ?_
  try go_wp2
  go_ret
  exact ⟨Z4.z17, Z4.z1⟩
 rw [if_neg c11] at H
 have c11b0 : (t117.toList == t109.toList) = false := beq_eq_false_iff_ne.mpr c11
 have c11b1 : (t117.toList != t109.toList) = true := bne_iff_ne.mpr c11
 obtain rfl := Option.some.inj H
 go_enter Tryd.func4, Tryd.ntmps4
 go_wp2_with (first | ((with_reducible refine gate_dst (N := 1) rfl ?_); refine box_event ?hg (N := 1) ?hd (cs := #[.int .i64 a0_0, .int .i64 a0_1, .int .i64 a0_2, .slice A0_3 l0_3.length c0_3]) (t := 39) ?hr ?_; (case hd => rfl); (case hg => rfl); (case hr => first | (go_simp; done) | (go_simp; rfl)); intro gb101 hg w51 hbox hb; have n0_ := Z4.k (below_step Z4.z8 hb); have n1_ := Z4.k (hbox); have n2_ := Z4.k (show w.heap.size ≤ gb101 from (by rw [hg]; exact (below_size Z4.z8))); have n3_ := Z4.k (show w.heap.size ≤ gb101 from (by rw [hg]; exact (below_size Z4.z8))); clear HB; have HB := n0_; have BK101 := n1_; have GW101 := n2_; have GE101 := n3_; clear n0_ n1_ n2_ n3_; clear hb hbox hg; have hcz52_0 : w51.cell? ⟨gb101, 0, none⟩ = some (.int .i64 a0_0) := (blk_cell BK101.out 0).trans rfl; have hcz52_1 : w51.cell? ⟨gb101, 1, none⟩ = some (.int .i64 a0_1) := (blk_cell BK101.out 1).trans rfl; have hcz52_2 : w51.cell? ⟨gb101, 2, none⟩ = some (.int .i64 a0_2) := (blk_cell BK101.out 2).trans rfl; have hcz52_3 : w51.cell? ⟨gb101, 3, none⟩ = some (.slice A0_3 l0_3.length c0_3) := (blk_cell BK101.out 3).trans rfl; have hfz52_0 := blk_frozen BK101.out 0; have hfz52_1 := blk_frozen BK101.out 1; have hfz52_2 := blk_frozen BK101.out 2; have hfz52_3 := blk_frozen BK101.out 3) | ((with_reducible refine gate_callee (f := 17) rfl ?_); refine goesL_ (some 9) rfl rfl Tryd.func17 (by kernel_rfl) rfl #[.agg #[.int .i64 a0_0, .int .i64 a0_1, .int .i64 a0_2, .slice A0_3 l0_3.length c0_3], .int .i64 1048576] rfl Z4.z3 ?_; (with_reducible refine (laws_szMatrix.calls a0_0 a0_1 a0_2 _ _ l0_3 1048576 t102 _ ?side1 ?side2 A2.out).mono ?_); (case side1 => exact Z4.z5); (case side2 => exact HC0_3.out); rintro e w53 ⟨rfl, hb⟩; refine ⟨_, rfl, ?_⟩; have n0_ := Z4.k (Z4.bb BK101 Z4.z2 hb); have n1_ := Z4.k (below_step Z4.z0 hb); clear BK101 HB; have BK101 := n0_; have HB := n1_; clear n0_ n1_; (try clear hb); (try clear hb2); (try clear hk); (try clear hi); have hcz54_0 : w53.cell? ⟨gb101, 0, none⟩ = some (.int .i64 a0_0) := (blk_cell BK101.out 0).trans rfl; have hcz54_1 : w53.cell? ⟨gb101, 1, none⟩ = some (.int .i64 a0_1) := (blk_cell BK101.out 1).trans rfl; have hcz54_2 : w53.cell? ⟨gb101, 2, none⟩ = some (.int .i64 a0_2) := (blk_cell BK101.out 2).trans rfl; have hcz54_3 : w53.cell? ⟨gb101, 3, none⟩ = some (.slice A0_3 l0_3.length c0_3) := (blk_cell BK101.out 3).trans rfl; have hfz54_0 := blk_frozen BK101.out 0; have hfz54_1 := blk_frozen BK101.out 1; have hfz54_2 := blk_frozen BK101.out 2; have hfz54_3 := blk_frozen BK101.out 3) | ((with_reducible refine gate_callee (f := 19) rfl ?_); refine goesL_ (some 13) rfl rfl Tryd.func19 (by kernel_rfl) rfl #[.agg #[.int .i64 a0_0, .int .i64 a0_1, .int .i64 a0_2, .slice A0_3 l0_3.length c0_3]] rfl Z4.z3 ?_; (with_reducible refine (laws_toMatrix.calls k a0_0 a0_1 a0_2 _ _ l0_3 t103 t104 t105 t106 _ ?side1 ?side2 A7.out).mono ?_); (case side1 => exact Z4.z5); (case side2 => exact HC0_3.out); rintro e w55 ⟨v107, rfl, ho0, hb⟩; refine ⟨_, rfl, ?_⟩; have n0_ := Z4.k (Kd.R_lower ho0 (below_size Z4.z0)); have n1_ := Z4.k (Z4.bb BK101 Z4.z2 hb); have n2_ := Z4.k (below_step Z4.z0 hb); clear BK101 HB; have HO108 := n0_; have BK101 := n1_; have HB := n2_; clear n0_ n1_ n2_; (try clear hb); (try clear hb2); (try clear hk); (try clear hi); (try clear ho0); obtain ⟨Ao56, co56, eo56⟩ := Kd.R_slice HO108.out; subst eo56) | ((with_reducible refine gate_callee (f := 18) rfl ?_); refine goesL_ (some 14) rfl rfl Tryd.func18 (by kernel_rfl) rfl #[.agg #[.int .i64 t103, .int .i64 t104, .int .i64 t105, .slice Ao56 t106.length co56]] rfl Z4.z3 ?_; (with_reducible refine (spec_MatrixText.calls k t103 t104 t105 _ _ t106 t109 _ ?side1 ?side2 A8.out).mono ?_); (case side1 => exact Z4.z14); (case side2 => exact (Kd.R_reads' HO108.out).2.1); rintro e w57 ⟨rfl, hb⟩; refine ⟨_, rfl, ?_⟩; have n0_ := Z4.k (Kd.R_below Z4.z6 hb); have n1_ := Z4.k (Z4.bb BK101 Z4.z2 hb); have n2_ := Z4.k (below_step Z4.z0 hb); clear HO108 BK101 HB; have HO108 := n0_; have BK101 := n1_; have HB := n2_; clear n0_ n1_ n2_; (try clear hb); (try clear hb2); (try clear hk); (try clear hi); have hcz58_0 : w57.cell? ⟨gb101, 0, none⟩ = some (.int .i64 a0_0) := (blk_cell BK101.out 0).trans rfl; have hcz58_1 : w57.cell? ⟨gb101, 1, none⟩ = some (.int .i64 a0_1) := (blk_cell BK101.out 1).trans rfl; have hcz58_2 : w57.cell? ⟨gb101, 2, none⟩ = some (.int .i64 a0_2) := (blk_cell BK101.out 2).trans rfl; have hcz58_3 : w57.cell? ⟨gb101, 3, none⟩ = some (.slice A0_3 l0_3.length c0_3) := (blk_cell BK101.out 3).trans rfl; have hfz58_0 := blk_frozen BK101.out 0; have hfz58_1 := blk_frozen BK101.out 1; have hfz58_2 := blk_frozen BK101.out 2; have hfz58_3 := blk_frozen BK101.out 3) | ((with_reducible refine gate_callee (f := 19) rfl ?_); refine goesL_ (some 16) rfl rfl Tryd.func19 (by kernel_rfl) rfl #[.agg #[.int .i64 a0_0, .int .i64 a0_1, .int .i64 a0_2, .slice A0_3 l0_3.length c0_3]] rfl Z4.z3 ?_; (with_reducible refine (laws_toMatrix.calls k a0_0 a0_1 a0_2 _ _ l0_3 t110 t111 t112 t113 _ ?side1 ?side2 A9.out).mono ?_); (case side1 => exact Z4.z5); (case side2 => exact HC0_3.out); rintro e w59 ⟨v114, rfl, ho0, hb⟩; refine ⟨_, rfl, ?_⟩; have n0_ := Z4.k (Kd.R_elder' Z4.z6 (Kd.R_base ho0) hb); have n1_ := Z4.k (Kd.R_lower (Kd.R_new' ho0 (Kd.R_lt Z4.z6)) (below_size Z4.z0)); have n2_ := Z4.k (Z4.bb BK101 Z4.z2 hb); have n3_ := Z4.k (below_step Z4.z0 hb); clear HO108 BK101 HB; have HO108 := n0_; have HO115 := n1_; have BK101 := n2_; have HB := n3_; clear n0_ n1_ n2_ n3_; (try clear hb); (try clear hb2); (try clear hk); (try clear hi); (try clear ho0)) | ((with_reducible refine gate_dst (N := 5) rfl ?_); refine box_event ?hg (N := 5) ?hd (cs := #[.int .i64 0, .int .i64 0, .int .i64 0, .slice none 0 0]) (t := 42) ?hr ?_; (case hd => rfl); (case hg => rfl); (case hr => first | (go_simp; done) | (go_simp; rfl)); intro gb116 hg w60 hbox hb; have n0_ := Z4.k (Kd.R_below Z4.z6 hb); have n1_ := Z4.k (Kd.R_below Z4.z9 hb); have n2_ := Z4.k (Z4.bb BK101 Z4.z2 hb); have n3_ := Z4.k (below_step Z4.z0 hb); have n4_ := Z4.k (hbox); have n5_ := Z4.k (show w.heap.size ≤ gb116 from (by rw [hg]; exact (below_size Z4.z0))); have n6_ := Z4.k (show w.heap.size ≤ gb116 from (by rw [hg]; exact (below_size Z4.z0))); have n7_ := Z4.k (show gb101 ≠ gb116 from (by rw [hg]; exact Nat.ne_of_lt (Z4.bl BK101 Z4.z2))); have n8_ := Z4.k (show gb116 ≠ gb101 from (by rw [hg]; exact Nat.ne_of_gt (Z4.bl BK101 Z4.z2))); clear HO108 HO115 BK101 HB; have HO108 := n0_; have HO115 := n1_; have BK101 := n2_; have HB := n3_; have BK116 := n4_; have GW116 := n5_; have GE116 := n6_; have NB101_116 := n7_; have NB116_101 := n8_; clear n0_ n1_ n2_ n3_ n4_ n5_ n6_ n7_ n8_; clear hb hbox hg; have hnb61 := NB116_101.out; have hnc61 := NB101_116.out; have hcz62_0 : w60.cell? ⟨gb116, 0, none⟩ = some (.int .i64 0) := (blk_cell BK116.out 0).trans rfl; have hcz62_1 : w60.cell? ⟨gb116, 1, none⟩ = some (.int .i64 0) := (blk_cell BK116.out 1).trans rfl; have hcz62_2 : w60.cell? ⟨gb116, 2, none⟩ = some (.int .i64 0) := (blk_cell BK116.out 2).trans rfl; have hcz62_3 : w60.cell? ⟨gb116, 3, none⟩ = some (.slice none 0 0) := (blk_cell BK116.out 3).trans rfl; have hfz62_0 := blk_frozen BK116.out 0; have hfz62_1 := blk_frozen BK116.out 1; have hfz62_2 := blk_frozen BK116.out 2; have hfz62_3 := blk_frozen BK116.out 3; obtain ⟨Ao63, co63, eo63⟩ := Kd.R_slice HO115.out; subst eo63) | ((with_reducible refine gate_callee (f := 20) rfl ?_); refine goesL_ (some 18) rfl rfl Tryd.func20 (by kernel_rfl) rfl #[.agg #[.int .i64 t110, .int .i64 t111, .int .i64 t112, .slice Ao63 t113.length co63]] rfl Z4.z3 ?_; (with_reducible refine (impl_MatrixText.calls k t110 t111 t112 _ _ t113 t117 _ ?side1 ?side2 ?side3 A10.out).mono ?_); (case side1 => exact (by refine (Kd.R_reads' (e := 2) (base := w.heap.size) (ok := fun k_ => (True ∧ some k_ ≠ (.slice Ao56 t106.length co56 : Value).ownBlock)) (n := t113.length) (c := co63) ?_).2.2; exact Z4.z10)); (case side2 => exact (Kd.R_reads' HO115.out).2.1); (case side3 => exact (by exact LaidP.below hlP_ Z4.z1)); rintro e w64 ⟨rfl, hb⟩; refine ⟨_, rfl, ?_⟩; have n0_ := Z4.k (Kd.R_below (by (with_reducible repeat (first | apply Kd.R_alloc | apply Kd.R_drewN | apply Kd.R_drew)); exact (Kd.R_mono (Kd.R_far (p := ⟨gb116, 3, none⟩) (Kd.R_far (p := ⟨gb116, 2, none⟩) (Kd.R_far (p := ⟨gb116, 1, none⟩) (Kd.R_far (p := ⟨gb116, 0, none⟩) (Kd.R_types HO108.out BK116.out (by decide)) (fun _ hk => hk.2) (.int .i64 t110)) (fun _ hk => hk.2) (.int .i64 t111)) (fun _ hk => hk.2) (.int .i64 t112)) (fun _ hk => hk.2) (.slice Ao63 t113.length co63)) (fun _ h_ => h_.1))) hb); have n1_ := Z4.k (Kd.R_below Z4.z10 hb); have n2_ := Z4.k (Z4.bb BK101 Z4.z16 hb); have n3_ := Z4.k (blk_below (g := gb116) (o := .cells #[.int .i64 t110, .int .i64 t111, .int .i64 t112, .slice Ao63 t113.length co63] 42 (0, 0)) Z4.z4 hb); have n4_ := Z4.k (below_step Z4.z1 hb); clear HO108 HO115 BK101 BK116 HB; have HO108 := n0_; have HO115 := n1_; have BK101 := n2_; have BK116 := n3_; have HB := n4_; clear n0_ n1_ n2_ n3_ n4_; (try clear hb); (try clear hb2); (try clear hk); (try clear hi)))
 go_ret
 exact ⟨Z4.z17, Z4.z1⟩
def laws_FnExactMatrixText.Pure : Prop := ∀ (a0_0 : Int) (a0_1 : Int) (a0_2 : Int) (l0_3 : List Int), (Lit.int .i64 a0_0).wf = true → (Lit.int .i64 a0_1).wf = true → (Lit.int .i64 a0_2).wf = true → l0_3.length ≤ maxLen → (∀ x ∈ l0_3, (Lit.int .i64 x).wf = true) → ∃ k, laws_FnExactMatrixText.f k a0_0 a0_1 a0_2 l0_3 = some true
theorem laws_FnExactMatrixText.walk (P : laws_FnExactMatrixText.Pure) (a0_0 : Int) (a0_1 : Int) (a0_2 : Int) (a0_3 : Option Addr) (len0_3 cap0_3 : Nat) (z0_3 : List Int) (w : World) (w0_0 : (Lit.int .i64 a0_0).wf = true) (w0_1 : (Lit.int .i64 a0_1).wf = true) (w0_2 : (Lit.int .i64 a0_2).wf = true) (w0_3 : (a0_3 = none ∧ len0_3 = 0 ∧ cap0_3 = 0 ∧ z0_3 = []) ∨ ∃ x, a0_3 = some x ∧ len0_3 ≤ cap0_3 ∧ cap0_3 ≤ maxLen ∧ z0_3.length = cap0_3 ∧ (∀ i, i < z0_3.length → w.cell? (x.add i) = some (.int .i64 (z0_3.getD i 0))) ∧ ∀ n ∈ z0_3, (Lit.int .i64 n).wf = true) (hlP_ : LaidP w) :
    Calls Tryd.prog 4 #[.agg #[.int .i64 a0_0, .int .i64 a0_1, .int .i64 a0_2, .slice a0_3 len0_3 cap0_3]] w fun e w' => e = .returned (.bool true) ∧ Below w.heap.size w w' := by
  obtain ⟨l0_3, rfl, hr0_3, hm0_3, hw0_3, hc0_3⟩ := ReadsInt.ofRowC w0_3
  obtain ⟨k, h⟩ := P a0_0 a0_1 a0_2 l0_3 w0_0 w0_1 w0_2 hm0_3 hw0_3
  refine (laws_FnExactMatrixText.calls k a0_0 a0_1 a0_2 _ _ l0_3 true w (Kd.C_of_reads (d := (0 : Int)) (h1 := fun _ => rfl) hr0_3) hc0_3 hlP_ h).mono ?_
  rintro e w' ⟨rfl, hd⟩
  exact ⟨rfl, hd⟩
end Go.Proofs.YtkndhjchlnepmaaDoor.F
end
