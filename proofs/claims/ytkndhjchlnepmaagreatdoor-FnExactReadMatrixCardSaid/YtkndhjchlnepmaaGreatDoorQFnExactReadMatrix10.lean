-- Texts of this claim, merged by packw.py (a program of this session's).
import Derived.Test.YtkndhjchlnepmaaGreatDoorQFnExactReadMatrix2
import Derived.Test.YtkndhjchlnepmaaGreatDoorQFnExactReadMatrix5
import Derived.Test.YtkndhjchlnepmaaGreatDoorQFnExactReadMatrix6
import Derived.Test.YtkndhjchlnepmaaGreatDoorQFnExactReadMatrix9

section
namespace Go.Proofs.YtkndhjchlnepmaaGreatDoor.F
open Go.RowKit Go.Proofs.YtkndhjchlnepmaaGreatDoorW.PrintWords Go.Proofs.YtkndhjchlnepmaaGreatDoorW.PrintLast Go.Proofs.YtkndhjchlnepmaaGreatDoorW.PrintMore
attribute [local go_sem] max2_int min2_int max_two min_two max_three min_three max_four min_four   -- for this text's walks alone
set_option linter.unusedVariables false
set_option linter.unusedSimpArgs false
/-! ### laws_eqInt64S: function 30 -/
def laws_eqInt64S.l0 : Nat → List Int → List Int → Int → Option (Bool)
  | 0, _, _, _ => none
  | k + 1, x0, x1, x5 => if x5 < (x0.length : Int) then (if 0 ≤ x5 then (if x5 < (x1.length : Int) then (if (rd x0 x5) = (rd x1 x5) then (laws_eqInt64S.l0 k x0 x1 (wrap64 (x5 + 1))) else (some false)) else (none)) else (none)) else (some true)
def laws_eqInt64S.f (k : Nat) (l0 : List Int) (l1 : List Int) : Option (Bool) := if (l0.length : Int) = (l1.length : Int) then (laws_eqInt64S.l0 k l0 l1 0) else (some false)
theorem Z30.z2 {P : Prop} (h : P := by first | rfl | (simp; done) | (simp [*]; done)) : P := h
theorem Z30.z1 {P : Prop} (h : P := by repeat (first | exact Drawn0.refl _ | apply Drawn0.step)) : P := h
theorem Z30.z0 {P : Prop} (h : P := by first | (with_reducible assumption) | assumption) : P := h
set_option maxHeartbeats 8000000 in
set_option maxRecDepth 100000 in
theorem laws_eqInt64S.calls (k : Nat) (A0 : Option Addr) (c0 : Nat) (l0 : List Int) (A1 : Option Addr) (c1 : Nat) (l1 : List Int) (r : Bool) (w : World) (hr0 : Kd.C (Kd.int .i64) w A0 l0.length l0) (hc0 : l0.length ≤ c0) (hr1 : Kd.C (Kd.int .i64) w A1 l1.length l1) (hc1 : l1.length ≤ c1) (h : laws_eqInt64S.f k l0 l1 = some r) :
  Calls Tryz.prog 30 #[.slice A0 l0.length c0, .slice A1 l1.length c1] w fun e w' => e = .returned (.bool r) ∧ Drawn0 w w' := by
 have HR0 := Aside0.mk hr0
 have HC0 := Aside0.mk hc0
 clear hr0 hc0
 have HR1 := Aside0.mk hr1
 have HC1 := Aside0.mk hc1
 clear hr1 hc1
 have H : (if (l0.length : Int) = (l1.length : Int) then (laws_eqInt64S.l0 k l0 l1 0) else (some false)) = some r := h
 clear h
 by_cases c3 : (l0.length : Int) = (l1.length : Int)
 ·rw [if_pos c3] at H
  have c3b0 : ((l0.length : Int) == (l1.length : Int)) = true := beq_iff_eq.mpr c3
  have c3b1 : ((l0.length : Int) != (l1.length : Int)) = false := bne_eq_false_iff_eq.mpr c3
  have c3b2 : (l0.length == l1.length) = true := by first | simpa using c3 | (simp at c3 ⊢; omega)
  clear c3
  have H' := Aside0.mk H
  clear H
  go_enter Tryz.func30, Tryz.ntmps30
  go_wp2
  repeat (go_quiet (fail); try go_wp2)
  go_loopg [5] k (fun kq v5 w' => ∃ (x5_1 : Int), v5 = .int .i64 x5_1 ∧ Aside0 (laws_eqInt64S.l0 kq l0 l1 x5_1 = some r) ∧ Aside0 (kq ≤ k) ∧ Drawn0 w w')
  case atStart => exact ⟨(0), Z30.z2, H', ⟨Nat.le_refl _⟩, Z30.z1⟩
  case round =>
   clear H'
   try clear c1
   try clear p2
   try clear c3
   try clear c3b0
   try clear c3b1
   try clear c3b2
   obtain ⟨x5_1, rfl, HA, HK1, ⟨m1, rfl⟩⟩ := hrel
   cases gk with
   | zero => exact absurd HA.out (by simp [laws_eqInt64S.l0])
   | succ k1 =>
    have H := HA.out
    clear HA
    simp only [laws_eqInt64S.l0] at H
    by_cases c4 : x5_1 < (l0.length : Int)
    ·rw [if_pos c4] at H
     have c4b0 : decide (x5_1 < (l0.length : Int)) = true := decide_eq_true c4
     clear c4
     by_cases c5 : 0 ≤ x5_1
     ·rw [if_pos c5] at H
      have c5b0 : decide (0 ≤ x5_1) = true := decide_eq_true c5
      clear c5
      by_cases c6 : x5_1 < (l1.length : Int)
      ·rw [if_pos c6] at H
       have c6b0 : decide (x5_1 < (l1.length : Int)) = true := decide_eq_true c6
       clear c6
       by_cases c7 : (rd l0 x5_1) = (rd l1 x5_1)
       ·rw [if_pos c7] at H
        have c7b0 : ((rd l0 x5_1) == (rd l1 x5_1)) = true := beq_iff_eq.mpr c7
        have c7b1 : ((rd l0 x5_1) != (rd l1 x5_1)) = false := bne_eq_false_iff_eq.mpr c7
        clear c7
        have H' := Aside0.mk H
        clear H
        have p101 : 0 ≤ (x5_1 : Int) := of_decide_eq_true Z30.z0
        have q101 : x5_1 < (l0.length : Int) := of_decide_eq_true Z30.z0
        obtain ⟨ad101, e101, hx101_0⟩ := Kd.at_int HR0.out x5_1 p101 q101
        cases e101
        replace p101 := eq_true p101
        replace q101 := eq_true q101
        have p102 : 0 ≤ (x5_1 : Int) := of_decide_eq_true Z30.z0
        have q102 : x5_1 < (l1.length : Int) := of_decide_eq_true Z30.z0
        obtain ⟨ad102, e102, hx102_0⟩ := Kd.at_int HR1.out x5_1 p102 q102
        cases e102
        replace p102 := eq_true p102
        replace q102 := eq_true q102
        go_wp2
        repeat (go_quiet (fail); try go_wp2)
        go_roundg k1
        case measure => have := HK1.out; omega
        case rel => exact ⟨(wrap64 (x5_1 + 1)), Z30.z2, H', ⟨(by have := HK1.out; omega)⟩, Z30.z1⟩
       rw [if_neg c7] at H
       have c7b0 : ((rd l0 x5_1) == (rd l1 x5_1)) = false := beq_eq_false_iff_ne.mpr c7
       have c7b1 : ((rd l0 x5_1) != (rd l1 x5_1)) = true := bne_iff_ne.mpr c7
       obtain rfl := Option.some.inj H
       have p101 : 0 ≤ (x5_1 : Int) := of_decide_eq_true Z30.z0
       have q101 : x5_1 < (l0.length : Int) := of_decide_eq_true Z30.z0
       obtain ⟨ad101, e101, hx101_0⟩ := Kd.at_int HR0.out x5_1 p101 q101
       cases e101
       replace p101 := eq_true p101
       replace q101 := eq_true q101
       have p102 : 0 ≤ (x5_1 : Int) := of_decide_eq_true Z30.z0
       have q102 : x5_1 < (l1.length : Int) := of_decide_eq_true Z30.z0
       obtain ⟨ad102, e102, hx102_0⟩ := Kd.at_int HR1.out x5_1 p102 q102
       cases e102
       replace p102 := eq_true p102
       replace q102 := eq_true q102
       go_wp2
       repeat (go_quiet (fail); try go_wp2)
       go_ret
       exact ⟨Z30.z2, Z30.z1⟩
      rw [if_neg c6] at H
      exact absurd H (by simp)
     rw [if_neg c5] at H
     exact absurd H (by simp)
    rw [if_neg c4] at H
    have c4b0 : decide (x5_1 < (l0.length : Int)) = false := decide_eq_false c4
    clear c4
    obtain rfl := Option.some.inj H
    go_wp2
    repeat (go_quiet (fail); try go_wp2)
    go_ret
    exact ⟨Z30.z2, Z30.z1⟩
 rw [if_neg c3] at H
 have c3b0 : ((l0.length : Int) == (l1.length : Int)) = false := beq_eq_false_iff_ne.mpr c3
 have c3b1 : ((l0.length : Int) != (l1.length : Int)) = true := bne_iff_ne.mpr c3
 have c3b2 : (l0.length == l1.length) = false := by first | simpa using c3 | (simp at c3 ⊢; omega)
 obtain rfl := Option.some.inj H
 go_enter Tryz.func30, Tryz.ntmps30
 go_wp2
 repeat (go_quiet (fail); try go_wp2)
 go_ret
 exact ⟨Z30.z2, Z30.z1⟩
/-! ### laws_eqMatrix: function 7 -/
def laws_eqMatrix.f (k : Nat) (a0_0 : Int) (a0_1 : Int) (a0_2 : Int) (l0_3 : List Int) (a1_0 : Int) (a1_1 : Int) (a1_2 : Int) (l1_3 : List Int) : Option (Bool) := if a0_0 = a1_0 then (if a0_1 = a1_1 then (if a0_2 = a1_2 then ((laws_eqInt64S.f k l0_3 l1_3).bind fun t103 => (if t103 = true then (some true) else (some false))) else (some false)) else (some false)) else (some false)
theorem Z7.bb {w0 w w1 : World} {g : Nat} {o : Obj} (_B : Aside0 (w0.heap[g]? = some o)) (h : w.heap[g]? = some o) (hb : Below w.heap.size w w1) : w1.heap[g]? = some o := blk_below h hb
theorem Z7.bl {w0 w : World} {g : Nat} {o : Obj} (_B : Aside0 (w0.heap[g]? = some o)) (h : w.heap[g]? = some o) : g < w.heap.size := blk_lt h
theorem Z7.k {p : Prop} (h : p) : Aside0 p := ⟨h⟩
theorem Z7.z11 {P : Prop} (h : P := by (try simp only [List.map_toArray, List.map_cons, List.map_nil]); first | done | rfl | (simp only [List.length_drop, List.length_take]; rfl)) : P := h
theorem Z7.z10 {P : Prop} (h : P := by rw [hg]; exact Nat.ne_of_gt (Z7.bl BK101 Z7.z2)) : P := h
theorem Z7.z9 {P : Prop} (h : P := by rw [hg]; exact Nat.ne_of_lt (Z7.bl BK101 Z7.z2)) : P := h
theorem Z7.z8 {P : Prop} (h : P := by repeat (first | exact (Kd.C_below HR0_3.out HB.out) | (with_reducible refine Kd.C_alloc ?_ _) | (with_reducible refine Kd.C_drewN ?_ _) | (with_reducible refine Kd.C_drew ?_))) : P := h
theorem Z7.z7 {P : Prop} (h : P := by repeat (first | exact (Kd.C_below HR1_3.out HB.out) | (with_reducible refine Kd.C_alloc ?_ _) | (with_reducible refine Kd.C_drewN ?_ _) | (with_reducible refine Kd.C_drew ?_))) : P := h
theorem Z7.z6 {P : Prop} (h : P := by rw [hg]; exact (below_size Z7.z0)) : P := h
theorem Z7.z5 {P : Prop} (h : P := by rw [hg]; exact (below_size Z7.z1)) : P := h
theorem Z7.z4 {P : Prop} (h : P := by first | rfl | (simp [errW_none, errW_some] <;> rfl) | (simp [*, errW_none, errW_some] <;> rfl)) : P := h
theorem Z7.z3 {P : Prop} (h : P := by repeat (first | (with_reducible first | exact HB.out | apply below_alloc | apply pw_below_drewN | apply below_drew1 | refine below_set ?_ GE101.out | refine below_set ?_ GE102.out) | exact HB.out)) : P := h
theorem Z7.z2 {P : Prop} (h : P := by (with_reducible repeat (first | refine blk_drewN ?_ _ | refine blk_drew ?_ | refine blk_alloc ?_ _)); exact BK101.out) : P := h
theorem Z7.z1 {P : Prop} (h : P := by repeat (first | (with_reducible first | exact HB.out | apply below_alloc | apply pw_below_drewN | apply below_drew1) | exact HB.out)) : P := h
theorem Z7.z0 {P : Prop} (h : P := by repeat (first | (with_reducible first | exact HB.out | apply below_alloc | apply pw_below_drewN | apply below_drew1 | refine below_set ?_ GE101.out) | exact HB.out)) : P := h
set_option maxHeartbeats 8000000 in
set_option maxRecDepth 100000 in
theorem laws_eqMatrix.calls (k : Nat) (a0_0 : Int) (a0_1 : Int) (a0_2 : Int) (A0_3 : Option Addr) (c0_3 : Nat) (l0_3 : List Int) (a1_0 : Int) (a1_1 : Int) (a1_2 : Int) (A1_3 : Option Addr) (c1_3 : Nat) (l1_3 : List Int) (r : Bool) (w : World) (hr0_3 : Kd.C (Kd.int .i64) w A0_3 l0_3.length l0_3) (hc0_3 : l0_3.length ≤ c0_3) (hr1_3 : Kd.C (Kd.int .i64) w A1_3 l1_3.length l1_3) (hc1_3 : l1_3.length ≤ c1_3) (h : laws_eqMatrix.f k a0_0 a0_1 a0_2 l0_3 a1_0 a1_1 a1_2 l1_3 = some r) :
  Calls Tryz.prog 7 #[.agg #[.int .i64 a0_0, .int .i64 a0_1, .int .i64 a0_2, .slice A0_3 l0_3.length c0_3], .agg #[.int .i64 a1_0, .int .i64 a1_1, .int .i64 a1_2, .slice A1_3 l1_3.length c1_3]] w fun e w' => e = .returned (.bool r) ∧ Below w.heap.size w w' := by
 have hu24 := Tryz.underlying24
 have HR0_3 := Z7.k hr0_3
 have HC0_3 := Z7.k hc0_3
 clear hr0_3 hc0_3
 have HR1_3 := Z7.k hr1_3
 have HC1_3 := Z7.k hc1_3
 clear hr1_3 hc1_3
 have HB := Z7.k (Below.refl w.heap.size w)
 have H : (if a0_0 = a1_0 then (if a0_1 = a1_1 then (if a0_2 = a1_2 then ((laws_eqInt64S.f k l0_3 l1_3).bind fun t103 => (if t103 = true then (some true) else (some false))) else (some false)) else (some false)) else (some false)) = some r := h
 clear h
 by_cases c3 : a0_0 = a1_0
 ·rw [if_pos c3] at H
  have c3b0 : (a0_0 == a1_0) = true := beq_iff_eq.mpr c3
  have c3b1 : (a0_0 != a1_0) = false := bne_eq_false_iff_eq.mpr c3
  clear c3
  by_cases c4 : a0_1 = a1_1
  ·rw [if_pos c4] at H
   have c4b0 : (a0_1 == a1_1) = true := beq_iff_eq.mpr c4
   have c4b1 : (a0_1 != a1_1) = false := bne_eq_false_iff_eq.mpr c4
   clear c4
   by_cases c5 : a0_2 = a1_2
   ·rw [if_pos c5] at H
    have c5b0 : (a0_2 == a1_2) = true := beq_iff_eq.mpr c5
    have c5b1 : (a0_2 != a1_2) = false := bne_eq_false_iff_eq.mpr c5
    clear c5
    replace H := Option.bind_eq_some_iff.mp H
    obtain ⟨t103, A60, H⟩ := H
    replace H : (if t103 = true then (some true) else (some false)) = some r := H
    have A6 := Z7.k A60
    clear A60
    by_cases c7 : t103 = true
    ·subst c7
     have H1 : (some true) = some r := by rw [if_pos rfl] at H; exact H
     clear H
     have H := H1
     clear H1
     obtain rfl := Option.some.inj H
     go_enter Tryz.func7, Tryz.ntmps7
     go_wp2_with (first | ((with_reducible refine gate_dst (N := 2) rfl ?_); refine box_event ?hg (N := 2) ?hd (cs := #[.int .i64 a0_0, .int .i64 a0_1, .int .i64 a0_2, .slice A0_3 l0_3.length c0_3]) (t := 24) ?hr ?_; (case hd => rfl); (case hg => rfl); (case hr => first | (go_simp; done) | (go_simp; rfl)); intro gb101 hg w8 hbox hb; have n0_ := Z7.k (below_step Z7.z1 hb); have n1_ := Z7.k (hbox); have n2_ := Z7.k (show w.heap.size ≤ gb101 from Z7.z5); have n3_ := Z7.k (show w.heap.size ≤ gb101 from Z7.z5); clear HB; have HB := n0_; have BK101 := n1_; have GW101 := n2_; have GE101 := n3_; clear n0_ n1_ n2_ n3_; clear hb hbox hg) | ((with_reducible refine gate_dst (N := 3) rfl ?_); refine box_event ?hg (N := 3) ?hd (cs := #[.int .i64 a1_0, .int .i64 a1_1, .int .i64 a1_2, .slice A1_3 l1_3.length c1_3]) (t := 24) ?hr ?_; (case hd => rfl); (case hg => rfl); (case hr => first | (go_simp; done) | (go_simp; rfl)); intro gb102 hg w9 hbox hb; have n0_ := Z7.k (Z7.bb BK101 Z7.z2 hb); have n1_ := Z7.k (below_step Z7.z0 hb); have n2_ := Z7.k (hbox); have n3_ := Z7.k (show w.heap.size ≤ gb102 from Z7.z6); have n4_ := Z7.k (show w.heap.size ≤ gb102 from Z7.z6); have n5_ := Z7.k (show gb101 ≠ gb102 from Z7.z9); have n6_ := Z7.k (show gb102 ≠ gb101 from Z7.z10); clear BK101 HB; have BK101 := n0_; have HB := n1_; have BK102 := n2_; have GW102 := n3_; have GE102 := n4_; have NB101_102 := n5_; have NB102_101 := n6_; clear n0_ n1_ n2_ n3_ n4_ n5_ n6_; clear hb hbox hg; have hnb10 := NB101_102.out; have hnc10 := NB102_101.out; have hcz11_0 : w9.cell? ⟨gb101, 0, none⟩ = some (.int .i64 a0_0) := (blk_cell BK101.out 0).trans rfl; have hcz11_1 : w9.cell? ⟨gb101, 1, none⟩ = some (.int .i64 a0_1) := (blk_cell BK101.out 1).trans rfl; have hcz11_2 : w9.cell? ⟨gb101, 2, none⟩ = some (.int .i64 a0_2) := (blk_cell BK101.out 2).trans rfl; have hcz11_3 : w9.cell? ⟨gb101, 3, none⟩ = some (.slice A0_3 l0_3.length c0_3) := (blk_cell BK101.out 3).trans rfl; have hfz11_0 := blk_frozen BK101.out 0; have hfz11_1 := blk_frozen BK101.out 1; have hfz11_2 := blk_frozen BK101.out 2; have hfz11_3 := blk_frozen BK101.out 3; have hcz12_0 : w9.cell? ⟨gb102, 0, none⟩ = some (.int .i64 a1_0) := (blk_cell BK102.out 0).trans rfl; have hcz12_1 : w9.cell? ⟨gb102, 1, none⟩ = some (.int .i64 a1_1) := (blk_cell BK102.out 1).trans rfl; have hcz12_2 : w9.cell? ⟨gb102, 2, none⟩ = some (.int .i64 a1_2) := (blk_cell BK102.out 2).trans rfl; have hcz12_3 : w9.cell? ⟨gb102, 3, none⟩ = some (.slice A1_3 l1_3.length c1_3) := (blk_cell BK102.out 3).trans rfl; have hfz12_0 := blk_frozen BK102.out 0; have hfz12_1 := blk_frozen BK102.out 1; have hfz12_2 := blk_frozen BK102.out 2; have hfz12_3 := blk_frozen BK102.out 3) | ((with_reducible refine gate_callee (f := 30) rfl ?_); refine goesL_ (some 24) rfl rfl Tryz.func30 (by kernel_rfl) rfl #[.slice A0_3 l0_3.length c0_3, .slice A1_3 l1_3.length c1_3] rfl Z7.z11 ?_; (with_reducible refine (laws_eqInt64S.calls k _ _ l0_3 _ _ l1_3 true _ ?side1 ?side2 ?side3 ?side4 A6.out).mono ?_); (case side1 => exact Z7.z8); (case side2 => exact HC0_3.out); (case side3 => exact Z7.z7); (case side4 => exact HC1_3.out); rintro e w' ⟨rfl, ⟨nd, rfl⟩⟩; refine ⟨_, rfl, ?_⟩))
     go_ret
     exact ⟨Z7.z4, Z7.z3⟩
    replace c7 := Bool.eq_false_iff.mpr c7
    subst c7
    have H1 : (some false) = some r := by rw [if_neg (show ¬ (false = true) by decide)] at H; exact H
    clear H
    have H := H1
    clear H1
    obtain rfl := Option.some.inj H
    go_enter Tryz.func7, Tryz.ntmps7
    go_wp2_with (first | ((with_reducible refine gate_dst (N := 2) rfl ?_); refine box_event ?hg (N := 2) ?hd (cs := #[.int .i64 a0_0, .int .i64 a0_1, .int .i64 a0_2, .slice A0_3 l0_3.length c0_3]) (t := 24) ?hr ?_; (case hd => rfl); (case hg => rfl); (case hr => first | (go_simp; done) | (go_simp; rfl)); intro gb101 hg w13 hbox hb; have n0_ := Z7.k (below_step Z7.z1 hb); have n1_ := Z7.k (hbox); have n2_ := Z7.k (show w.heap.size ≤ gb101 from Z7.z5); have n3_ := Z7.k (show w.heap.size ≤ gb101 from Z7.z5); clear HB; have HB := n0_; have BK101 := n1_; have GW101 := n2_; have GE101 := n3_; clear n0_ n1_ n2_ n3_; clear hb hbox hg) | ((with_reducible refine gate_dst (N := 3) rfl ?_); refine box_event ?hg (N := 3) ?hd (cs := #[.int .i64 a1_0, .int .i64 a1_1, .int .i64 a1_2, .slice A1_3 l1_3.length c1_3]) (t := 24) ?hr ?_; (case hd => rfl); (case hg => rfl); (case hr => first | (go_simp; done) | (go_simp; rfl)); intro gb102 hg w14 hbox hb; have n0_ := Z7.k (Z7.bb BK101 Z7.z2 hb); have n1_ := Z7.k (below_step Z7.z0 hb); have n2_ := Z7.k (hbox); have n3_ := Z7.k (show w.heap.size ≤ gb102 from Z7.z6); have n4_ := Z7.k (show w.heap.size ≤ gb102 from Z7.z6); have n5_ := Z7.k (show gb101 ≠ gb102 from Z7.z9); have n6_ := Z7.k (show gb102 ≠ gb101 from Z7.z10); clear BK101 HB; have BK101 := n0_; have HB := n1_; have BK102 := n2_; have GW102 := n3_; have GE102 := n4_; have NB101_102 := n5_; have NB102_101 := n6_; clear n0_ n1_ n2_ n3_ n4_ n5_ n6_; clear hb hbox hg; have hnb15 := NB101_102.out; have hnc15 := NB102_101.out; have hcz16_0 : w14.cell? ⟨gb101, 0, none⟩ = some (.int .i64 a0_0) := (blk_cell BK101.out 0).trans rfl; have hcz16_1 : w14.cell? ⟨gb101, 1, none⟩ = some (.int .i64 a0_1) := (blk_cell BK101.out 1).trans rfl; have hcz16_2 : w14.cell? ⟨gb101, 2, none⟩ = some (.int .i64 a0_2) := (blk_cell BK101.out 2).trans rfl; have hcz16_3 : w14.cell? ⟨gb101, 3, none⟩ = some (.slice A0_3 l0_3.length c0_3) := (blk_cell BK101.out 3).trans rfl; have hfz16_0 := blk_frozen BK101.out 0; have hfz16_1 := blk_frozen BK101.out 1; have hfz16_2 := blk_frozen BK101.out 2; have hfz16_3 := blk_frozen BK101.out 3; have hcz17_0 : w14.cell? ⟨gb102, 0, none⟩ = some (.int .i64 a1_0) := (blk_cell BK102.out 0).trans rfl; have hcz17_1 : w14.cell? ⟨gb102, 1, none⟩ = some (.int .i64 a1_1) := (blk_cell BK102.out 1).trans rfl; have hcz17_2 : w14.cell? ⟨gb102, 2, none⟩ = some (.int .i64 a1_2) := (blk_cell BK102.out 2).trans rfl; have hcz17_3 : w14.cell? ⟨gb102, 3, none⟩ = some (.slice A1_3 l1_3.length c1_3) := (blk_cell BK102.out 3).trans rfl; have hfz17_0 := blk_frozen BK102.out 0; have hfz17_1 := blk_frozen BK102.out 1; have hfz17_2 := blk_frozen BK102.out 2; have hfz17_3 := blk_frozen BK102.out 3) | ((with_reducible refine gate_callee (f := 30) rfl ?_); refine goesL_ (some 24) rfl rfl Tryz.func30 (by kernel_rfl) rfl #[.slice A0_3 l0_3.length c0_3, .slice A1_3 l1_3.length c1_3] rfl Z7.z11 ?_; (with_reducible refine (laws_eqInt64S.calls k _ _ l0_3 _ _ l1_3 false _ ?side1 ?side2 ?side3 ?side4 A6.out).mono ?_); (case side1 => exact Z7.z8); (case side2 => exact HC0_3.out); (case side3 => exact Z7.z7); (case side4 => exact HC1_3.out); rintro e w' ⟨rfl, ⟨nd, rfl⟩⟩; refine ⟨_, rfl, ?_⟩))
    go_ret
    exact ⟨Z7.z4, Z7.z3⟩
   rw [if_neg c5] at H
   have c5b0 : (a0_2 == a1_2) = false := beq_eq_false_iff_ne.mpr c5
   have c5b1 : (a0_2 != a1_2) = true := bne_iff_ne.mpr c5
   obtain rfl := Option.some.inj H
   go_enter Tryz.func7, Tryz.ntmps7
   go_wp2_with (first | ((with_reducible refine gate_dst (N := 2) rfl ?_); refine box_event ?hg (N := 2) ?hd (cs := #[.int .i64 a0_0, .int .i64 a0_1, .int .i64 a0_2, .slice A0_3 l0_3.length c0_3]) (t := 24) ?hr ?_; (case hd => rfl); (case hg => rfl); (case hr => first | (go_simp; done) | (go_simp; rfl)); intro gb101 hg w18 hbox hb; have n0_ := Z7.k (below_step Z7.z1 hb); have n1_ := Z7.k (hbox); have n2_ := Z7.k (show w.heap.size ≤ gb101 from Z7.z5); have n3_ := Z7.k (show w.heap.size ≤ gb101 from Z7.z5); clear HB; have HB := n0_; have BK101 := n1_; have GW101 := n2_; have GE101 := n3_; clear n0_ n1_ n2_ n3_; clear hb hbox hg) | ((with_reducible refine gate_dst (N := 3) rfl ?_); refine box_event ?hg (N := 3) ?hd (cs := #[.int .i64 a1_0, .int .i64 a1_1, .int .i64 a1_2, .slice A1_3 l1_3.length c1_3]) (t := 24) ?hr ?_; (case hd => rfl); (case hg => rfl); (case hr => first | (go_simp; done) | (go_simp; rfl)); intro gb102 hg w19 hbox hb; have n0_ := Z7.k (Z7.bb BK101 Z7.z2 hb); have n1_ := Z7.k (below_step Z7.z0 hb); have n2_ := Z7.k (hbox); have n3_ := Z7.k (show w.heap.size ≤ gb102 from Z7.z6); have n4_ := Z7.k (show w.heap.size ≤ gb102 from Z7.z6); have n5_ := Z7.k (show gb101 ≠ gb102 from Z7.z9); have n6_ := Z7.k (show gb102 ≠ gb101 from Z7.z10); clear BK101 HB; have BK101 := n0_; have HB := n1_; have BK102 := n2_; have GW102 := n3_; have GE102 := n4_; have NB101_102 := n5_; have NB102_101 := n6_; clear n0_ n1_ n2_ n3_ n4_ n5_ n6_; clear hb hbox hg; have hnb20 := NB101_102.out; have hnc20 := NB102_101.out; have hcz21_0 : w19.cell? ⟨gb101, 0, none⟩ = some (.int .i64 a0_0) := (blk_cell BK101.out 0).trans rfl; have hcz21_1 : w19.cell? ⟨gb101, 1, none⟩ = some (.int .i64 a0_1) := (blk_cell BK101.out 1).trans rfl; have hcz21_2 : w19.cell? ⟨gb101, 2, none⟩ = some (.int .i64 a0_2) := (blk_cell BK101.out 2).trans rfl; have hcz21_3 : w19.cell? ⟨gb101, 3, none⟩ = some (.slice A0_3 l0_3.length c0_3) := (blk_cell BK101.out 3).trans rfl; have hfz21_0 := blk_frozen BK101.out 0; have hfz21_1 := blk_frozen BK101.out 1; have hfz21_2 := blk_frozen BK101.out 2; have hfz21_3 := blk_frozen BK101.out 3; have hcz22_0 : w19.cell? ⟨gb102, 0, none⟩ = some (.int .i64 a1_0) := (blk_cell BK102.out 0).trans rfl; have hcz22_1 : w19.cell? ⟨gb102, 1, none⟩ = some (.int .i64 a1_1) := (blk_cell BK102.out 1).trans rfl; have hcz22_2 : w19.cell? ⟨gb102, 2, none⟩ = some (.int .i64 a1_2) := (blk_cell BK102.out 2).trans rfl; have hcz22_3 : w19.cell? ⟨gb102, 3, none⟩ = some (.slice A1_3 l1_3.length c1_3) := (blk_cell BK102.out 3).trans rfl; have hfz22_0 := blk_frozen BK102.out 0; have hfz22_1 := blk_frozen BK102.out 1; have hfz22_2 := blk_frozen BK102.out 2; have hfz22_3 := blk_frozen BK102.out 3))
   go_ret
   exact ⟨Z7.z4, Z7.z3⟩
  rw [if_neg c4] at H
  have c4b0 : (a0_1 == a1_1) = false := beq_eq_false_iff_ne.mpr c4
  have c4b1 : (a0_1 != a1_1) = true := bne_iff_ne.mpr c4
  obtain rfl := Option.some.inj H
  go_enter Tryz.func7, Tryz.ntmps7
  go_wp2_with (first | ((with_reducible refine gate_dst (N := 2) rfl ?_); refine box_event ?hg (N := 2) ?hd (cs := #[.int .i64 a0_0, .int .i64 a0_1, .int .i64 a0_2, .slice A0_3 l0_3.length c0_3]) (t := 24) ?hr ?_; (case hd => rfl); (case hg => rfl); (case hr => first | (go_simp; done) | (go_simp; rfl)); intro gb101 hg w23 hbox hb; have n0_ := Z7.k (below_step Z7.z1 hb); have n1_ := Z7.k (hbox); have n2_ := Z7.k (show w.heap.size ≤ gb101 from Z7.z5); have n3_ := Z7.k (show w.heap.size ≤ gb101 from Z7.z5); clear HB; have HB := n0_; have BK101 := n1_; have GW101 := n2_; have GE101 := n3_; clear n0_ n1_ n2_ n3_; clear hb hbox hg) | ((with_reducible refine gate_dst (N := 3) rfl ?_); refine box_event ?hg (N := 3) ?hd (cs := #[.int .i64 a1_0, .int .i64 a1_1, .int .i64 a1_2, .slice A1_3 l1_3.length c1_3]) (t := 24) ?hr ?_; (case hd => rfl); (case hg => rfl); (case hr => first | (go_simp; done) | (go_simp; rfl)); intro gb102 hg w24 hbox hb; have n0_ := Z7.k (Z7.bb BK101 Z7.z2 hb); have n1_ := Z7.k (below_step Z7.z0 hb); have n2_ := Z7.k (hbox); have n3_ := Z7.k (show w.heap.size ≤ gb102 from Z7.z6); have n4_ := Z7.k (show w.heap.size ≤ gb102 from Z7.z6); have n5_ := Z7.k (show gb101 ≠ gb102 from Z7.z9); have n6_ := Z7.k (show gb102 ≠ gb101 from Z7.z10); clear BK101 HB; have BK101 := n0_; have HB := n1_; have BK102 := n2_; have GW102 := n3_; have GE102 := n4_; have NB101_102 := n5_; have NB102_101 := n6_; clear n0_ n1_ n2_ n3_ n4_ n5_ n6_; clear hb hbox hg; have hnb25 := NB101_102.out; have hnc25 := NB102_101.out; have hcz26_0 : w24.cell? ⟨gb101, 0, none⟩ = some (.int .i64 a0_0) := (blk_cell BK101.out 0).trans rfl; have hcz26_1 : w24.cell? ⟨gb101, 1, none⟩ = some (.int .i64 a0_1) := (blk_cell BK101.out 1).trans rfl; have hcz26_2 : w24.cell? ⟨gb101, 2, none⟩ = some (.int .i64 a0_2) := (blk_cell BK101.out 2).trans rfl; have hcz26_3 : w24.cell? ⟨gb101, 3, none⟩ = some (.slice A0_3 l0_3.length c0_3) := (blk_cell BK101.out 3).trans rfl; have hfz26_0 := blk_frozen BK101.out 0; have hfz26_1 := blk_frozen BK101.out 1; have hfz26_2 := blk_frozen BK101.out 2; have hfz26_3 := blk_frozen BK101.out 3; have hcz27_0 : w24.cell? ⟨gb102, 0, none⟩ = some (.int .i64 a1_0) := (blk_cell BK102.out 0).trans rfl; have hcz27_1 : w24.cell? ⟨gb102, 1, none⟩ = some (.int .i64 a1_1) := (blk_cell BK102.out 1).trans rfl; have hcz27_2 : w24.cell? ⟨gb102, 2, none⟩ = some (.int .i64 a1_2) := (blk_cell BK102.out 2).trans rfl; have hcz27_3 : w24.cell? ⟨gb102, 3, none⟩ = some (.slice A1_3 l1_3.length c1_3) := (blk_cell BK102.out 3).trans rfl; have hfz27_0 := blk_frozen BK102.out 0; have hfz27_1 := blk_frozen BK102.out 1; have hfz27_2 := blk_frozen BK102.out 2; have hfz27_3 := blk_frozen BK102.out 3))
  go_ret
  exact ⟨Z7.z4, Z7.z3⟩
 rw [if_neg c3] at H
 have c3b0 : (a0_0 == a1_0) = false := beq_eq_false_iff_ne.mpr c3
 have c3b1 : (a0_0 != a1_0) = true := bne_iff_ne.mpr c3
 obtain rfl := Option.some.inj H
 go_enter Tryz.func7, Tryz.ntmps7
 go_wp2_with (first | ((with_reducible refine gate_dst (N := 2) rfl ?_); refine box_event ?hg (N := 2) ?hd (cs := #[.int .i64 a0_0, .int .i64 a0_1, .int .i64 a0_2, .slice A0_3 l0_3.length c0_3]) (t := 24) ?hr ?_; (case hd => rfl); (case hg => rfl); (case hr => first | (go_simp; done) | (go_simp; rfl)); intro gb101 hg w28 hbox hb; have n0_ := Z7.k (below_step Z7.z1 hb); have n1_ := Z7.k (hbox); have n2_ := Z7.k (show w.heap.size ≤ gb101 from Z7.z5); have n3_ := Z7.k (show w.heap.size ≤ gb101 from Z7.z5); clear HB; have HB := n0_; have BK101 := n1_; have GW101 := n2_; have GE101 := n3_; clear n0_ n1_ n2_ n3_; clear hb hbox hg) | ((with_reducible refine gate_dst (N := 3) rfl ?_); refine box_event ?hg (N := 3) ?hd (cs := #[.int .i64 a1_0, .int .i64 a1_1, .int .i64 a1_2, .slice A1_3 l1_3.length c1_3]) (t := 24) ?hr ?_; (case hd => rfl); (case hg => rfl); (case hr => first | (go_simp; done) | (go_simp; rfl)); intro gb102 hg w29 hbox hb; have n0_ := Z7.k (Z7.bb BK101 Z7.z2 hb); have n1_ := Z7.k (below_step Z7.z0 hb); have n2_ := Z7.k (hbox); have n3_ := Z7.k (show w.heap.size ≤ gb102 from Z7.z6); have n4_ := Z7.k (show w.heap.size ≤ gb102 from Z7.z6); have n5_ := Z7.k (show gb101 ≠ gb102 from Z7.z9); have n6_ := Z7.k (show gb102 ≠ gb101 from Z7.z10); clear BK101 HB; have BK101 := n0_; have HB := n1_; have BK102 := n2_; have GW102 := n3_; have GE102 := n4_; have NB101_102 := n5_; have NB102_101 := n6_; clear n0_ n1_ n2_ n3_ n4_ n5_ n6_; clear hb hbox hg; have hnb30 := NB101_102.out; have hnc30 := NB102_101.out; have hcz31_0 : w29.cell? ⟨gb101, 0, none⟩ = some (.int .i64 a0_0) := (blk_cell BK101.out 0).trans rfl; have hcz31_1 : w29.cell? ⟨gb101, 1, none⟩ = some (.int .i64 a0_1) := (blk_cell BK101.out 1).trans rfl; have hcz31_2 : w29.cell? ⟨gb101, 2, none⟩ = some (.int .i64 a0_2) := (blk_cell BK101.out 2).trans rfl; have hcz31_3 : w29.cell? ⟨gb101, 3, none⟩ = some (.slice A0_3 l0_3.length c0_3) := (blk_cell BK101.out 3).trans rfl; have hfz31_0 := blk_frozen BK101.out 0; have hfz31_1 := blk_frozen BK101.out 1; have hfz31_2 := blk_frozen BK101.out 2; have hfz31_3 := blk_frozen BK101.out 3; have hcz32_0 : w29.cell? ⟨gb102, 0, none⟩ = some (.int .i64 a1_0) := (blk_cell BK102.out 0).trans rfl; have hcz32_1 : w29.cell? ⟨gb102, 1, none⟩ = some (.int .i64 a1_1) := (blk_cell BK102.out 1).trans rfl; have hcz32_2 : w29.cell? ⟨gb102, 2, none⟩ = some (.int .i64 a1_2) := (blk_cell BK102.out 2).trans rfl; have hcz32_3 : w29.cell? ⟨gb102, 3, none⟩ = some (.slice A1_3 l1_3.length c1_3) := (blk_cell BK102.out 3).trans rfl; have hfz32_0 := blk_frozen BK102.out 0; have hfz32_1 := blk_frozen BK102.out 1; have hfz32_2 := blk_frozen BK102.out 2; have hfz32_3 := blk_frozen BK102.out 3))
 go_ret
 exact ⟨Z7.z4, Z7.z3⟩
/-! ### laws_markInt64S: function 31 -/
def laws_markInt64S.l0 : Nat → List Int → Int → Int → Option (Int × List Int)
  | 0, _, _, _ => none
  | k + 1, x0, x1, x5 => if x5 < (x0.length : Int) then (if 0 ≤ x5 then (laws_markInt64S.l0 k (x0.set (x5 : Int).toNat x1) (wrap64 (x1 + 1)) (wrap64 (x5 + 1))) else (none)) else (some (x1, x0))
def laws_markInt64S.f (k : Nat) (l0 : List Int) (a1 : Int) : Option (Int × List Int) := laws_markInt64S.l0 k l0 a1 0
theorem Z31.z1 {P : Prop} (h : P := by repeat (first | (with_reducible first | exact HB.out | apply below_alloc | apply pw_below_drewN | apply below_drew1) | exact HB.out)) : P := h
theorem Z31.z0 {P : Prop} (h : P := by repeat (first | (with_reducible first | exact HK.out | apply Kept.alloc | apply Kept.drewN | apply Kept.drew) | exact HK.out)) : P := h
set_option maxHeartbeats 8000000 in
set_option maxRecDepth 100000 in
theorem laws_markInt64S.calls (k : Nat) (P0_ : Nat → Prop) (u9000_ : Value) (l0 : List Int) (a1 : Int) (r1 : Int) (r2 : List Int) (w0 w : World) (hB : Below w0.heap.size w0 w) (ho0 : Kd.R (Kd.int .i64) 2 w w0.heap.size P0_ u9000_ l0) (h : laws_markInt64S.f k l0 a1 = some (r1, r2)) :
  Calls Tryz.prog 31 #[u9000_, .int .i64 a1] w fun e w' => e = .returned (.int .i64 r1) ∧ Kd.R (Kd.int .i64) 2 w' w0.heap.size (fun k_ => (P0_ k_ ∨ w.heap.size ≤ k_)) u9000_ r2 ∧ Below w0.heap.size w0 w' ∧ Kept w w' (fun k_ => P0_ k_) := by
 have HO0 := Aside0.mk (show Kd.R (Kd.int .i64) 2 w w0.heap.size (fun k_ => (P0_ k_ ∨ w.heap.size ≤ k_)) u9000_ l0 from Kd.R_mono ho0 (fun k_ hk => (.inl hk)))
 have HK := Aside0.mk (Kept.refl w (fun k_ => P0_ k_))
 have HW0 := Aside0.mk hB.size
 have HB := Aside0.mk hB
 clear hB
 have H : (laws_markInt64S.l0 k l0 a1 0) = some (r1, r2) := h
 clear h
 have H' := Aside0.mk H
 clear H
 go_enter Tryz.func31, Tryz.ntmps31
 go_wp2
 go_loopg [1, 5] k (fun kq v1 v5 w' => ∃ (x0_1 : List Int) (x1_1 : Int) (x5_1 : Int), v1 = .int .i64 x1_1 ∧ v5 = .int .i64 x5_1 ∧ Aside0 (laws_markInt64S.l0 kq x0_1 x1_1 x5_1 = some (r1, r2)) ∧ Aside0 (kq ≤ k) ∧ Aside0 (Kd.R (Kd.int .i64) 2 w' w0.heap.size (fun k_ => (P0_ k_ ∨ w.heap.size ≤ k_)) u9000_ x0_1) ∧ Aside0 (Kept w w' (fun k_ => P0_ k_)) ∧ Aside0 (Below w0.heap.size w0 w'))
 case atStart => exact ⟨(l0), (a1), (0), (by first | rfl | (simp; done) | (simp [*]; done)), (by first | rfl | (simp; done) | (simp [*]; done)), H', ⟨Nat.le_refl _⟩, ⟨(by (with_reducible repeat (first | apply Kd.R_alloc | apply Kd.R_drewN | apply Kd.R_drew)); exact HO0.out)⟩, ⟨Z31.z0⟩, ⟨Z31.z1⟩⟩
 case round =>
  clear H'
  try clear p2
  obtain ⟨x0_1, x1_1, x5_1, rfl, rfl, HA, HK1, HO_0, HK, HB⟩ := hrel
  cases gk with
  | zero => exact absurd HA.out (by simp [laws_markInt64S.l0])
  | succ k1 =>
   have H := HA.out
   clear HA
   simp only [laws_markInt64S.l0] at H
   by_cases c3 : x5_1 < (x0_1.length : Int)
   ·rw [if_pos c3] at H
    have c3b0 : decide (x5_1 < (x0_1.length : Int)) = true := decide_eq_true c3
    clear c3
    by_cases c4 : 0 ≤ x5_1
    ·rw [if_pos c4] at H
     have c4b0 : decide (0 ≤ x5_1) = true := decide_eq_true c4
     clear c4
     obtain ⟨y101, hy101⟩ : ∃ y_ : List Int, y_ = (x0_1.set (x5_1 : Int).toNat x1_1) := ⟨_, rfl⟩
     replace H : (laws_markInt64S.l0 k1 y101 (wrap64 (x1_1 + 1)) (wrap64 (x5_1 + 1))) = some (r1, r2) := by first | (rw [hy101]; with_reducible exact H) | (have H2_ := (Option.bind_some _ _).symm.trans H; rw [hy101]; with_reducible exact H2_) | (have H2_ := (Option.bind_some _ _).symm.trans H; with_reducible exact H2_) | with_reducible exact H | (rw [hy101]; exact H) | exact H
     have Ny101 := Aside0.mk hy101
     clear hy101
     have H' := Aside0.mk H
     clear H
     obtain ⟨Ao6, co6, eo6⟩ := Kd.R_slice HO_0.out
     subst eo6
     have p5 : 0 ≤ (x5_1 : Int) := of_decide_eq_true (by first | (with_reducible assumption) | assumption)
     have q5 : (x5_1 : Int) < ((x0_1.length : Int) : Int) := of_decide_eq_true (by first | (with_reducible assumption) | assumption)
     obtain ⟨go5, co5, eo5, gb5, gl5, cl5, HG5⟩ := Kd.R_form HO_0.out (by omega)
     (first | cases eo5 | (injection eo5 with ea_ en_ ec_; (first | subst ea_ | (injection ea_ with ea_; subst ea_)); subst ec_; clear en_))
     have GB5 := Aside0.mk gb5
     have GG5 := Aside0.mk HG5
     clear gb5 gl5 HG5
     have HMgo5 := Aside0.mk (show (P0_ go5 ∨ w.heap.size ≤ go5) from (HO_0.out.1 _ rfl))
     obtain ⟨hx5_0, hf5_0⟩ := Kd.R_celln 0 HO_0.out (x5_1 : Int) p5 q5
     replace p5 := eq_true p5
     replace q5 := eq_true q5
     have HP7 := Kd.R_putg HO_0.out (x5_1 : Int) x1_1
     go_wp2_with (first | ((with_reducible refine gate_store (t := 2) (p := 15) rfl ?_); refine store_event (t := 2) (p := 15) (v := ?vo_w8) (w1 := (wr.setCell ⟨go5, (x5_1 : Int).toNat, none⟩ (.int .i64 x1_1))) ?hg ?ho ?hn ?hr ?_; (case ho => rfl); (case hg => rfl); (case hn => rfl); (case hr => first | (go_simp; done) | (go_simp; rfl)); intro w8 hw; have hg : wr.grownBy w8 (some go5) := (by rw [hw]; exact HP7.2); have hp_ : Kd.R (Kd.int .i64) 2 w8 w0.heap.size (fun k_ => (P0_ k_ ∨ w.heap.size ≤ k_)) (.slice (some ⟨go5, 0, none⟩) x0_1.length co6) y101 := (by rw [hw, Ny101.out]; exact HP7.1); clear HP7; have n0_ := Aside0.mk (hp_); have n1_ := Aside0.mk ((by rw [hw]; exact below_set (HB.out) GB5.out : Below w0.heap.size w0 w8)); have n2_ := Aside0.mk (Kept.of_grown (S := (fun k_ => P0_ k_)) hg Z31.z0 (fun k_ e_ => (HO_0.out.1 k_ e_))); clear HO_0 HB HK; have HO_0 := n0_; have HB := n1_; have HK := n2_; clear n0_ n1_ n2_; clear hg hw hp_))
     go_roundg k1
     case measure => have := HK1.out; omega
     case rel => exact ⟨(y101), (wrap64 (x1_1 + 1)), (wrap64 (x5_1 + 1)), (by first | rfl | (simp; done) | (simp [*]; done)), (by first | rfl | (simp; done) | (simp [*]; done)), H', ⟨(by have := HK1.out; omega)⟩, ⟨(by (with_reducible repeat (first | apply Kd.R_alloc | apply Kd.R_drewN | apply Kd.R_drew)); exact HO_0.out)⟩, ⟨Z31.z0⟩, ⟨Z31.z1⟩⟩
    rw [if_neg c4] at H
    exact absurd H (by simp)
   rw [if_neg c3] at H
   have c3b0 : decide (x5_1 < (x0_1.length : Int)) = false := decide_eq_false c3
   clear c3
   simp only [Option.some.injEq, Prod.mk.injEq] at H
   obtain ⟨rfl, rfl⟩ := H
   obtain ⟨Ao9, co9, eo9⟩ := Kd.R_slice HO_0.out
   subst eo9
   go_wp2
   go_ret
   exact ⟨(by first | rfl | (simp [errW_none, errW_some] <;> rfl) | (simp [*, errW_none, errW_some] <;> rfl)), (by (with_reducible repeat (first | apply Kd.R_alloc | apply Kd.R_drewN | apply Kd.R_drew)); exact HO_0.out), Z31.z1, Z31.z0⟩
/-! ### laws_markMatrix: function 8 -/
def laws_markMatrix.f (k : Nat) (a0_0 : Int) (a0_1 : Int) (a0_2 : Int) (l0_3 : List Int) (a1 : Int) : Option (Int × List Int) := (laws_markInt64S.f k l0_3 a1).bind fun bt102 => (some (bt102.1, bt102.2))
theorem Z8.z2 {P : Prop} (h : P := by repeat (first | (with_reducible first | exact HB.out | apply below_alloc | apply pw_below_drewN | apply below_drew1) | exact HB.out)) : P := h
theorem Z8.z1 {P : Prop} (h : P := by repeat (first | (with_reducible first | exact HB.out | apply below_alloc | apply pw_below_drewN | apply below_drew1 | refine below_set ?_ GE101.out) | exact HB.out)) : P := h
theorem Z8.z0 {P : Prop} (h : P := by repeat (first | (with_reducible first | exact HK.out | apply Kept.alloc | apply Kept.drewN | apply Kept.drew | refine Kept.setCell ?_ (.inr GW101.out) _) | exact HK.out)) : P := h
set_option maxHeartbeats 8000000 in
set_option maxRecDepth 100000 in
theorem laws_markMatrix.calls (k : Nat) (a0_0 : Int) (a0_1 : Int) (a0_2 : Int) (P0_3_ : Nat → Prop) (u9000_ : Value) (l0_3 : List Int) (a1 : Int) (r1 : Int) (r2 : List Int) (w0 w : World) (hB : Below w0.heap.size w0 w) (ho0_3 : Kd.R (Kd.int .i64) 2 w w0.heap.size P0_3_ u9000_ l0_3) (h : laws_markMatrix.f k a0_0 a0_1 a0_2 l0_3 a1 = some (r1, r2)) :
  Calls Tryz.prog 8 #[.agg #[.int .i64 a0_0, .int .i64 a0_1, .int .i64 a0_2, u9000_], .int .i64 a1] w fun e w' => e = .returned (.int .i64 r1) ∧ Kd.R (Kd.int .i64) 2 w' w0.heap.size (fun k_ => (P0_3_ k_ ∨ w.heap.size ≤ k_)) u9000_ r2 ∧ Below w0.heap.size w0 w' ∧ Kept w w' (fun k_ => P0_3_ k_) := by
 have hu24 := Tryz.underlying24
 have HO0_3 := Aside0.mk (show Kd.R (Kd.int .i64) 2 w w0.heap.size (fun k_ => (P0_3_ k_ ∨ w.heap.size ≤ k_)) u9000_ l0_3 from Kd.R_mono ho0_3 (fun k_ hk => (.inl hk)))
 have HK := Aside0.mk (Kept.refl w (fun k_ => P0_3_ k_))
 have HW0 := Aside0.mk hB.size
 have HB := Aside0.mk hB
 clear hB
 have H : ((laws_markInt64S.f k l0_3 a1).bind fun bt102 => (some (bt102.1, bt102.2))) = some (r1, r2) := h
 clear h
 replace H := Option.bind_eq_some_iff.mp H
 obtain ⟨⟨t102, t103⟩, A30, H⟩ := H
 replace H : (some (t102, t103)) = some (r1, r2) := H
 have A3 := Aside0.mk A30
 clear A30
 simp only [Option.some.injEq, Prod.mk.injEq] at H
 obtain ⟨rfl, rfl⟩ := H
 obtain ⟨Ao4, co4, eo4⟩ := Kd.R_slice HO0_3.out
 subst eo4
 go_enter Tryz.func8, Tryz.ntmps8
 go_wp2_with (first | ((with_reducible refine gate_dst (N := 2) rfl ?_); refine box_event ?hg (N := 2) ?hd (cs := #[.int .i64 a0_0, .int .i64 a0_1, .int .i64 a0_2, .slice Ao4 l0_3.length co4]) (t := 24) ?hr ?_; (case hd => rfl); (case hg => rfl); (case hr => first | (go_simp; done) | (go_simp; rfl)); intro gb101 hg w5 hbox hb; have n0_ := Aside0.mk (Kd.R_below (by (with_reducible repeat (first | apply Kd.R_alloc | apply Kd.R_drewN | apply Kd.R_drew)); exact HO0_3.out) hb); have n1_ := Aside0.mk (Kept.below (S := (fun k_ => P0_3_ k_)) (by repeat (first | (with_reducible first | exact HK.out | apply Kept.alloc | apply Kept.drewN | apply Kept.drew) | exact HK.out)) hb); have n2_ := Aside0.mk (below_step Z8.z2 hb); have n3_ := Aside0.mk (hbox); have n4_ := Aside0.mk (show w.heap.size ≤ gb101 from (by rw [hg]; exact (by first | exact HK.out.1 | exact (show Kept w _ (fun k_ => P0_3_ k_) from by repeat (first | (with_reducible first | exact HK.out | apply Kept.alloc | apply Kept.drewN | apply Kept.drew) | exact HK.out)).1))); have n5_ := Aside0.mk ((by rw [hg]; exact (below_size Z8.z2) : w0.heap.size ≤ gb101)); clear HO0_3 HK HB; have HO0_3 := n0_; have HK := n1_; have HB := n2_; have BK101 := n3_; have GW101 := n4_; have GE101 := n5_; clear n0_ n1_ n2_ n3_ n4_ n5_; clear hb hbox hg; have hcz6_0 : w5.cell? ⟨gb101, 0, none⟩ = some (.int .i64 a0_0) := (blk_cell BK101.out 0).trans rfl; have hcz6_1 : w5.cell? ⟨gb101, 1, none⟩ = some (.int .i64 a0_1) := (blk_cell BK101.out 1).trans rfl; have hcz6_2 : w5.cell? ⟨gb101, 2, none⟩ = some (.int .i64 a0_2) := (blk_cell BK101.out 2).trans rfl; have hcz6_3 : w5.cell? ⟨gb101, 3, none⟩ = some (.slice Ao4 l0_3.length co4) := (blk_cell BK101.out 3).trans rfl; have hfz6_0 := blk_frozen BK101.out 0; have hfz6_1 := blk_frozen BK101.out 1; have hfz6_2 := blk_frozen BK101.out 2; have hfz6_3 := blk_frozen BK101.out 3) | ((with_reducible refine gate_callee (f := 31) rfl ?_); refine goesL_ (some 8) rfl rfl Tryz.func31 (by kernel_rfl) rfl #[.slice Ao4 l0_3.length co4, .int .i64 a1] rfl (by (try simp only [List.map_toArray, List.map_cons, List.map_nil]); first | done | rfl | (simp only [List.length_drop, List.length_take]; rfl)) ?_; (with_reducible refine (laws_markInt64S.calls k (fun k_ => some k_ = (.slice Ao4 l0_3.length co4 : Value).ownBlock) (.slice Ao4 l0_3.length co4) l0_3 a1 t102 t103 w0 _ ?side1 ?side2 A3.out).mono ?_); (case side1 => exact Z8.z1); (case side2 => exact Kd.R_tight rfl HO0_3.out); rintro e w7 ⟨rfl, hy0, hb, hkp⟩; refine ⟨_, rfl, ?_⟩; have n0_ := Aside0.mk (Kd.R_reok rfl hy0 (fun k_ e_ => HO0_3.out.1 k_ e_)); have n1_ := Aside0.mk (blk_kept (by (with_reducible repeat (first | refine blk_drewN ?_ _ | refine blk_drew ?_ | refine blk_alloc ?_ _)); exact BK101.out) hkp (fun hs_ => (fun e_ => (Kd.R_ne HO0_3.out BK101.out (by decide)) e_) hs_)); have n2_ := Aside0.mk (Kept.then_ (S := (fun k_ => P0_3_ k_)) Z8.z0 hkp (fun k_ hs_ => (fun e_ => (HO0_3.out.1 k_ e_.symm)) hs_)); have n3_ := Aside0.mk (hb); clear HO0_3 BK101 HK HB; have HO0_3 := n0_; have BK101 := n1_; have HK := n2_; have HB := n3_; clear n0_ n1_ n2_ n3_; (try clear hb); (try clear hkp); (try clear hy0)))
 go_ret
 exact ⟨(by first | rfl | (simp [errW_none, errW_some] <;> rfl) | (simp [*, errW_none, errW_some] <;> rfl)), (by (with_reducible repeat (first | apply Kd.R_alloc | apply Kd.R_drewN | apply Kd.R_drew)); exact HO0_3.out), Z8.z1, Z8.z0⟩
/-! ### laws_heldInt64S: function 32 -/
def laws_heldInt64S.l0 : Nat → List Int → Int → Int → Option (Int)
  | 0, _, _, _ => none
  | k + 1, x0, x1, x5 => if x5 < (x0.length : Int) then (if 0 ≤ x5 then (if (rd x0 x5) = x1 then (laws_heldInt64S.l0 k x0 (wrap64 (x1 + 1)) (wrap64 (x5 + 1))) else (some (-1))) else (none)) else (some x1)
def laws_heldInt64S.f (k : Nat) (l0 : List Int) (a1 : Int) : Option (Int) := laws_heldInt64S.l0 k l0 a1 0
theorem Z32.z1 {P : Prop} (h : P := by repeat (first | exact Drawn0.refl _ | apply Drawn0.step)) : P := h
theorem Z32.z0 {P : Prop} (h : P := by first | rfl | (simp; done) | (simp [*]; done)) : P := h
set_option maxHeartbeats 8000000 in
set_option maxRecDepth 100000 in
theorem laws_heldInt64S.calls (k : Nat) (A0 : Option Addr) (c0 : Nat) (l0 : List Int) (a1 : Int) (r : Int) (w : World) (hr0 : Kd.C (Kd.int .i64) w A0 l0.length l0) (hc0 : l0.length ≤ c0) (h : laws_heldInt64S.f k l0 a1 = some r) :
  Calls Tryz.prog 32 #[.slice A0 l0.length c0, .int .i64 a1] w fun e w' => e = .returned (.int .i64 r) ∧ Drawn0 w w' := by
 have HR0 := Aside0.mk hr0
 have HC0 := Aside0.mk hc0
 clear hr0 hc0
 have H : (laws_heldInt64S.l0 k l0 a1 0) = some r := h
 clear h
 have H' := Aside0.mk H
 clear H
 go_enter Tryz.func32, Tryz.ntmps32
 go_wp2
 go_loopg [1, 5] k (fun kq v1 v5 w' => ∃ (x1_1 : Int) (x5_1 : Int), v1 = .int .i64 x1_1 ∧ v5 = .int .i64 x5_1 ∧ Aside0 (laws_heldInt64S.l0 kq l0 x1_1 x5_1 = some r) ∧ Aside0 (kq ≤ k) ∧ Drawn0 w w')
 case atStart => exact ⟨(a1), (0), Z32.z0, Z32.z0, H', ⟨Nat.le_refl _⟩, Z32.z1⟩
 case round =>
  clear H'
  try clear p2
  obtain ⟨x1_1, x5_1, rfl, rfl, HA, HK1, ⟨m1, rfl⟩⟩ := hrel
  cases gk with
  | zero => exact absurd HA.out (by simp [laws_heldInt64S.l0])
  | succ k1 =>
   have H := HA.out
   clear HA
   simp only [laws_heldInt64S.l0] at H
   by_cases c3 : x5_1 < (l0.length : Int)
   ·rw [if_pos c3] at H
    have c3b0 : decide (x5_1 < (l0.length : Int)) = true := decide_eq_true c3
    clear c3
    by_cases c4 : 0 ≤ x5_1
    ·rw [if_pos c4] at H
     have c4b0 : decide (0 ≤ x5_1) = true := decide_eq_true c4
     clear c4
     by_cases c5 : (rd l0 x5_1) = x1_1
     ·rw [if_pos c5] at H
      have c5b0 : ((rd l0 x5_1) == x1_1) = true := beq_iff_eq.mpr c5
      have c5b1 : ((rd l0 x5_1) != x1_1) = false := bne_eq_false_iff_eq.mpr c5
      clear c5
      have H' := Aside0.mk H
      clear H
      have p101 : 0 ≤ (x5_1 : Int) := of_decide_eq_true (by first | (with_reducible assumption) | assumption)
      have q101 : x5_1 < (l0.length : Int) := of_decide_eq_true (by first | (with_reducible assumption) | assumption)
      obtain ⟨ad101, e101, hx101_0⟩ := Kd.at_int HR0.out x5_1 p101 q101
      cases e101
      replace p101 := eq_true p101
      replace q101 := eq_true q101
      go_wp2
      go_roundg k1
      case measure => have := HK1.out; omega
      case rel => exact ⟨(wrap64 (x1_1 + 1)), (wrap64 (x5_1 + 1)), Z32.z0, Z32.z0, H', ⟨(by have := HK1.out; omega)⟩, Z32.z1⟩
     rw [if_neg c5] at H
     have c5b0 : ((rd l0 x5_1) == x1_1) = false := beq_eq_false_iff_ne.mpr c5
     have c5b1 : ((rd l0 x5_1) != x1_1) = true := bne_iff_ne.mpr c5
     obtain rfl := Option.some.inj H
     have p101 : 0 ≤ (x5_1 : Int) := of_decide_eq_true (by first | (with_reducible assumption) | assumption)
     have q101 : x5_1 < (l0.length : Int) := of_decide_eq_true (by first | (with_reducible assumption) | assumption)
     obtain ⟨ad101, e101, hx101_0⟩ := Kd.at_int HR0.out x5_1 p101 q101
     cases e101
     replace p101 := eq_true p101
     replace q101 := eq_true q101
     go_wp2
     go_ret
     exact ⟨Z32.z0, Z32.z1⟩
    rw [if_neg c4] at H
    exact absurd H (by simp)
   rw [if_neg c3] at H
   have c3b0 : decide (x5_1 < (l0.length : Int)) = false := decide_eq_false c3
   clear c3
   obtain rfl := Option.some.inj H
   go_wp2
   go_ret
   exact ⟨Z32.z0, Z32.z1⟩
/-! ### laws_heldMatrix: function 9 -/
def laws_heldMatrix.f (k : Nat) (a0_0 : Int) (a0_1 : Int) (a0_2 : Int) (l0_3 : List Int) (a1 : Int) : Option (Int) := (laws_heldInt64S.f k l0_3 a1).bind fun t102 => (if t102 < 0 then (some (-1)) else (some t102))
theorem Z9.z3 {P : Prop} (h : P := by (try simp only [List.map_toArray, List.map_cons, List.map_nil]); first | done | rfl | (simp only [List.length_drop, List.length_take]; rfl)) : P := h
theorem Z9.z2 {P : Prop} (h : P := by repeat (first | (with_reducible first | exact HB.out | apply below_alloc | apply pw_below_drewN | apply below_drew1 | refine below_set ?_ GE101.out) | exact HB.out)) : P := h
theorem Z9.z1 {P : Prop} (h : P := by repeat (first | exact (Kd.C_below HR0_3.out HB.out) | (with_reducible refine Kd.C_alloc ?_ _) | (with_reducible refine Kd.C_drewN ?_ _) | (with_reducible refine Kd.C_drew ?_))) : P := h
theorem Z9.z0 {P : Prop} (h : P := by repeat (first | (with_reducible first | exact HB.out | apply below_alloc | apply pw_below_drewN | apply below_drew1) | exact HB.out)) : P := h
set_option maxHeartbeats 8000000 in
set_option maxRecDepth 100000 in
theorem laws_heldMatrix.calls (k : Nat) (a0_0 : Int) (a0_1 : Int) (a0_2 : Int) (A0_3 : Option Addr) (c0_3 : Nat) (l0_3 : List Int) (a1 : Int) (r : Int) (w : World) (hr0_3 : Kd.C (Kd.int .i64) w A0_3 l0_3.length l0_3) (hc0_3 : l0_3.length ≤ c0_3) (h : laws_heldMatrix.f k a0_0 a0_1 a0_2 l0_3 a1 = some r) :
  Calls Tryz.prog 9 #[.agg #[.int .i64 a0_0, .int .i64 a0_1, .int .i64 a0_2, .slice A0_3 l0_3.length c0_3], .int .i64 a1] w fun e w' => e = .returned (.int .i64 r) ∧ Below w.heap.size w w' := by
 have hu24 := Tryz.underlying24
 have HR0_3 := Aside0.mk hr0_3
 have HC0_3 := Aside0.mk hc0_3
 clear hr0_3 hc0_3
 have HB := Aside0.mk (Below.refl w.heap.size w)
 have H : ((laws_heldInt64S.f k l0_3 a1).bind fun t102 => (if t102 < 0 then (some (-1)) else (some t102))) = some r := h
 clear h
 replace H := Option.bind_eq_some_iff.mp H
 obtain ⟨t102, A30, H⟩ := H
 replace H : (if t102 < 0 then (some (-1)) else (some t102)) = some r := H
 have A3 := Aside0.mk A30
 clear A30
 by_cases c4 : t102 < 0
 ·rw [if_pos c4] at H
  have c4b0 : decide (t102 < 0) = true := decide_eq_true c4
  clear c4
  obtain rfl := Option.some.inj H
  go_enter Tryz.func9, Tryz.ntmps9
  go_wp2_with (first | ((with_reducible refine gate_dst (N := 2) rfl ?_); refine box_event ?hg (N := 2) ?hd (cs := #[.int .i64 a0_0, .int .i64 a0_1, .int .i64 a0_2, .slice A0_3 l0_3.length c0_3]) (t := 24) ?hr ?_; (case hd => rfl); (case hg => rfl); (case hr => first | (go_simp; done) | (go_simp; rfl)); intro gb101 hg w5 hbox hb; have n0_ := Aside0.mk (below_step Z9.z0 hb); have n1_ := Aside0.mk (hbox); have n2_ := Aside0.mk (show w.heap.size ≤ gb101 from (by rw [hg]; exact (below_size Z9.z0))); have n3_ := Aside0.mk (show w.heap.size ≤ gb101 from (by rw [hg]; exact (below_size Z9.z0))); clear HB; have HB := n0_; have BK101 := n1_; have GW101 := n2_; have GE101 := n3_; clear n0_ n1_ n2_ n3_; clear hb hbox hg; have hcz6_0 : w5.cell? ⟨gb101, 0, none⟩ = some (.int .i64 a0_0) := (blk_cell BK101.out 0).trans rfl; have hcz6_1 : w5.cell? ⟨gb101, 1, none⟩ = some (.int .i64 a0_1) := (blk_cell BK101.out 1).trans rfl; have hcz6_2 : w5.cell? ⟨gb101, 2, none⟩ = some (.int .i64 a0_2) := (blk_cell BK101.out 2).trans rfl; have hcz6_3 : w5.cell? ⟨gb101, 3, none⟩ = some (.slice A0_3 l0_3.length c0_3) := (blk_cell BK101.out 3).trans rfl; have hfz6_0 := blk_frozen BK101.out 0; have hfz6_1 := blk_frozen BK101.out 1; have hfz6_2 := blk_frozen BK101.out 2; have hfz6_3 := blk_frozen BK101.out 3) | ((with_reducible refine gate_callee (f := 32) rfl ?_); refine goesL_ (some 8) rfl rfl Tryz.func32 (by kernel_rfl) rfl #[.slice A0_3 l0_3.length c0_3, .int .i64 a1] rfl Z9.z3 ?_; (with_reducible refine (laws_heldInt64S.calls k _ _ l0_3 a1 t102 _ ?side1 ?side2 A3.out).mono ?_); (case side1 => exact Z9.z1); (case side2 => exact HC0_3.out); rintro e w' ⟨rfl, ⟨nd, rfl⟩⟩; refine ⟨_, rfl, ?_⟩))
  go_ret
  exact ⟨(by first | rfl | (simp [errW_none, errW_some] <;> rfl) | (simp [*, errW_none, errW_some] <;> rfl)), Z9.z2⟩
 rw [if_neg c4] at H
 have c4b0 : decide (t102 < 0) = false := decide_eq_false c4
 clear c4
 obtain rfl := Option.some.inj H
 go_enter Tryz.func9, Tryz.ntmps9
 go_wp2_with (first | ((with_reducible refine gate_dst (N := 2) rfl ?_); refine box_event ?hg (N := 2) ?hd (cs := #[.int .i64 a0_0, .int .i64 a0_1, .int .i64 a0_2, .slice A0_3 l0_3.length c0_3]) (t := 24) ?hr ?_; (case hd => rfl); (case hg => rfl); (case hr => first | (go_simp; done) | (go_simp; rfl)); intro gb101 hg w7 hbox hb; have n0_ := Aside0.mk (below_step Z9.z0 hb); have n1_ := Aside0.mk (hbox); have n2_ := Aside0.mk (show w.heap.size ≤ gb101 from (by rw [hg]; exact (below_size Z9.z0))); have n3_ := Aside0.mk (show w.heap.size ≤ gb101 from (by rw [hg]; exact (below_size Z9.z0))); clear HB; have HB := n0_; have BK101 := n1_; have GW101 := n2_; have GE101 := n3_; clear n0_ n1_ n2_ n3_; clear hb hbox hg; have hcz8_0 : w7.cell? ⟨gb101, 0, none⟩ = some (.int .i64 a0_0) := (blk_cell BK101.out 0).trans rfl; have hcz8_1 : w7.cell? ⟨gb101, 1, none⟩ = some (.int .i64 a0_1) := (blk_cell BK101.out 1).trans rfl; have hcz8_2 : w7.cell? ⟨gb101, 2, none⟩ = some (.int .i64 a0_2) := (blk_cell BK101.out 2).trans rfl; have hcz8_3 : w7.cell? ⟨gb101, 3, none⟩ = some (.slice A0_3 l0_3.length c0_3) := (blk_cell BK101.out 3).trans rfl; have hfz8_0 := blk_frozen BK101.out 0; have hfz8_1 := blk_frozen BK101.out 1; have hfz8_2 := blk_frozen BK101.out 2; have hfz8_3 := blk_frozen BK101.out 3) | ((with_reducible refine gate_callee (f := 32) rfl ?_); refine goesL_ (some 8) rfl rfl Tryz.func32 (by kernel_rfl) rfl #[.slice A0_3 l0_3.length c0_3, .int .i64 a1] rfl Z9.z3 ?_; (with_reducible refine (laws_heldInt64S.calls k _ _ l0_3 a1 t102 _ ?side1 ?side2 A3.out).mono ?_); (case side1 => exact Z9.z1); (case side2 => exact HC0_3.out); rintro e w' ⟨rfl, ⟨nd, rfl⟩⟩; refine ⟨_, rfl, ?_⟩))
 go_ret
 exact ⟨(by first | rfl | (simp [errW_none, errW_some] <;> rfl) | (simp [*, errW_none, errW_some] <;> rfl)), Z9.z2⟩
/-! ### laws_FnExactReadMatrix: function 3 -/
mutual
def laws_FnExactReadMatrix.j0 : Nat → ByteArray → Bool → Bool → Int → Int → Int → List Int → Int → Int → Int → List Int → Option (Bool)
  | 0, _, _, _, _, _, _, _, _, _, _, _ => none
  | k + 1, x0, x4, x32, x109000, x109001, x109002, x109003, x117000, x117001, x117002, x117003 => if x32 = true then (some false) else ((laws_markMatrix.f k x117000 x117001 x117002 x117003 1).bind fun bt118 => ((laws_heldMatrix.f k x117000 x117001 x117002 bt118.2 1).bind fun t120 => (if t120 < 0 then (some false) else (if t120 = bt118.1 then ((impl_ReadMatrix.f k x0).bind fun bt121 => ((laws_eqMatrix.f k bt121.1 bt121.2.1 bt121.2.2.1 bt121.2.2.2.1 x109000 x109001 x109002 x109003).bind fun t129 => (if t129 = true then (laws_FnExactReadMatrix.j1 k bt118.1 (bt121.2.2.2.2 != x4) x117000 x117001 x117002 bt118.2) else (laws_FnExactReadMatrix.j1 k bt118.1 true x117000 x117001 x117002 bt118.2)))) else (some false)))))
def laws_FnExactReadMatrix.j1 : Nat → Int → Bool → Int → Int → Int → List Int → Option (Bool)
  | 0, _, _, _, _, _, _ => none
  | k + 1, x7, x57, x117000, x117001, x117002, x117003 => if x57 = true then (some false) else ((laws_heldMatrix.f k x117000 x117001 x117002 x117003 1).bind fun t130 => (if t130 < 0 then (some false) else (if t130 = x7 then (some true) else (some false))))
end
def laws_FnExactReadMatrix.f (k : Nat) (a0 : ByteArray) : Option (Bool) := if (a0.size : Int) > 1048576 then (some true) else ((spec_ReadMatrix.f k a0).bind fun bt101 => ((impl_ReadMatrix.f k a0).bind fun bt109 => ((laws_eqMatrix.f k bt109.1 bt109.2.1 bt109.2.2.1 bt109.2.2.2.1 bt101.1 bt101.2.1 bt101.2.2.1 bt101.2.2.2.1).bind fun t117 => (if t117 = true then (laws_FnExactReadMatrix.j0 k a0 bt101.2.2.2.2 (bt109.2.2.2.2 != bt101.2.2.2.2) bt101.1 bt101.2.1 bt101.2.2.1 bt101.2.2.2.1 bt109.1 bt109.2.1 bt109.2.2.1 bt109.2.2.2.1) else (laws_FnExactReadMatrix.j0 k a0 bt101.2.2.2.2 true bt101.1 bt101.2.1 bt101.2.2.1 bt101.2.2.2.1 bt109.1 bt109.2.1 bt109.2.2.1 bt109.2.2.2.1)))))
theorem Z3.bb {w0 w w1 : World} {g : Nat} {o : Obj} (_B : Aside0 (w0.heap[g]? = some o)) (h : w.heap[g]? = some o) (hb : Below w.heap.size w w1) : w1.heap[g]? = some o := blk_below h hb
theorem Z3.bl {w0 w : World} {g : Nat} {o : Obj} (_B : Aside0 (w0.heap[g]? = some o)) (h : w.heap[g]? = some o) : g < w.heap.size := blk_lt h
theorem Z3.k {p : Prop} (h : p) : Aside0 p := ⟨h⟩
theorem Z3.z32 {P : Prop} (h : P := by (with_reducible repeat (first | apply Kd.R_alloc | apply Kd.R_drewN | apply Kd.R_drew)); exact Kd.R_mono HO106.out (fun _ hk => hk.2)) : P := h
theorem Z3.z31 {P : Prop} (h : P := by (with_reducible repeat (first | apply Kd.R_alloc | apply Kd.R_drewN | apply Kd.R_drew)); exact Kd.R_mono HO114.out (fun _ hk => hk.2)) : P := h
theorem Z3.z30 {P : Prop} (h : P := by (with_reducible repeat (first | apply Kd.R_alloc | apply Kd.R_drewN | apply Kd.R_drew)); exact Kd.R_mono HO126.out (fun _ hk => ⟨hk.1.2, hk.2⟩)) : P := h
theorem Z3.z29 {P : Prop} (h : P := by (repeat (first | (with_reducible first | refine blk_drewN ?_ _ | refine blk_drew ?_ | refine blk_alloc ?_ _) | refine blk_far ?_ NB108_116.out _)); exact BK108.out) : P := h
theorem Z3.z28 {P : Prop} (h : P := by (repeat (first | (with_reducible first | refine blk_drewN ?_ _ | refine blk_drew ?_ | refine blk_alloc ?_ _) | refine blk_far ?_ NB108_128.out _)); exact BK108.out) : P := h
theorem Z3.z27 {P : Prop} (h : P := by (repeat (first | (with_reducible first | refine blk_drewN ?_ _ | refine blk_drew ?_ | refine blk_alloc ?_ _) | refine blk_far ?_ NB116_128.out _)); exact BK116.out) : P := h
theorem Z3.z26 {P : Prop} (h : P := by refine (Kd.R_reads' (e := 2) (base := w.heap.size) (ok := fun k_ => (True ∧ some k_ ≠ (.slice Ao9 t104.length co9 : Value).ownBlock)) (n := t112.length) (c := co14) ?_).2.2; exact Z3.z7) : P := h
theorem Z3.z25 {P : Prop} (h : P := by refine (Kd.R_reads' (e := 2) (base := w.heap.size) (ok := fun k_ => (True ∧ some k_ ≠ (.slice Ao14 t112.length co14 : Value).ownBlock)) (n := t104.length) (c := co9) ?_).2.2; exact Z3.z8) : P := h
theorem Z3.z24 {P : Prop} (h : P := by (with_reducible repeat (first | apply Kd.R_alloc | apply Kd.R_drewN | apply Kd.R_drew)); exact HO_129003.out) : P := h
theorem Z3.z23 {P : Prop} (h : P := by rw [show t119.length = t112.length from (Kd.R_reads' HO_117003.out).1.symm]; exact (Kd.R_reads' HO_117003.out).2.1) : P := h
theorem Z3.z22 {P : Prop} (h : P := by refine (Kd.R_reads' (e := 2) (base := w.heap.size) (ok := fun k_ => (some k_ ≠ (.slice Ao14 t112.length co14 : Value).ownBlock ∧ some k_ ≠ (.slice Ao47 t124.length co47 : Value).ownBlock)) (n := t104.length) (c := co9) ?_).2.2; exact Z3.z5) : P := h
theorem Z3.z21 {P : Prop} (h : P := by refine (Kd.R_reads' (e := 2) (base := w.heap.size) (ok := fun k_ => ((True ∧ some k_ ≠ (.slice Ao9 t104.length co9 : Value).ownBlock) ∧ some k_ ≠ (.slice Ao14 t112.length co14 : Value).ownBlock)) (n := t124.length) (c := co47) ?_).2.2; exact Z3.z6) : P := h
theorem Z3.z20 {P : Prop} (h : P := by (with_reducible repeat (first | refine blk_drewN ?_ _ | refine blk_drew ?_ | refine blk_alloc ?_ _)); exact BK128.out) : P := h
theorem Z3.z19 {P : Prop} (h : P := by (try simp only [List.map_toArray, List.map_cons, List.map_nil]); first | done | (rw [show t119.length = t112.length from (Kd.R_reads' HO_117003.out).1.symm] <;> rfl) | rfl | (simp only [List.length_drop, List.length_take]; rfl)) : P := h
theorem Z3.z18 {P : Prop} (h : P := by (with_reducible repeat (first | apply Kd.R_alloc | apply Kd.R_drewN | apply Kd.R_drew)); exact (Kd.R_mono (Kd.R_far (p := ⟨gb108, 3, none⟩) (Kd.R_far (p := ⟨gb108, 2, none⟩) (Kd.R_far (p := ⟨gb108, 1, none⟩) (Kd.R_far (p := ⟨gb108, 0, none⟩) (Kd.R_types HO106.out BK108.out (by decide)) (fun _ hk => hk.2) (.int .i64 t101)) (fun _ hk => hk.2) (.int .i64 t102)) (fun _ hk => hk.2) (.int .i64 t103)) (fun _ hk => hk.2) (.slice Ao9 t104.length co9)) (fun _ h_ => h_.1))) : P := h
theorem Z3.z17 {P : Prop} (h : P := by (with_reducible repeat (first | apply Kd.R_alloc | apply Kd.R_drewN | apply Kd.R_drew)); exact (Kd.R_mono (Kd.R_far (p := ⟨gb128, 3, none⟩) (Kd.R_far (p := ⟨gb128, 2, none⟩) (Kd.R_far (p := ⟨gb128, 1, none⟩) (Kd.R_far (p := ⟨gb128, 0, none⟩) (Kd.R_types HO_117003.out BK128.out (by decide)) (fun _ hk => hk.2) (.int .i64 t121)) (fun _ hk => hk.2) (.int .i64 t122)) (fun _ hk => hk.2) (.int .i64 t123)) (fun _ hk => hk.2) (.slice Ao47 t124.length co47)) (fun _ h_ => h_.1))) : P := h
theorem Z3.z16 {P : Prop} (h : P := by first | rfl | (simp [errW_none, errW_some] <;> rfl) | (simp [*, errW_none, errW_some] <;> rfl)) : P := h
theorem Z3.z15 {P : Prop} (h : P := by repeat (first | (with_reducible first | exact HB.out | apply below_alloc | apply pw_below_drewN | apply below_drew1) | exact HB.out)) : P := h
theorem Z3.z14 {P : Prop} (h : P := by repeat (first | exact (Kd.R_reads' HO_117003.out).2.2 | (with_reducible refine Kd.C_alloc ?_ _) | (with_reducible refine Kd.C_drewN ?_ _) | (with_reducible refine Kd.C_drew ?_))) : P := h
theorem Z3.z13 {P : Prop} (h : P := by (with_reducible repeat (first | apply Kd.R_alloc | apply Kd.R_drewN | apply Kd.R_drew)); exact HO_109003.out) : P := h
theorem Z3.z12 {P : Prop} (h : P := by (with_reducible repeat (first | apply Kd.R_alloc | apply Kd.R_drewN | apply Kd.R_drew)); exact HO_117003.out) : P := h
theorem Z3.z11 {P : Prop} (h : P := by (with_reducible repeat (first | refine blk_drewN ?_ _ | refine blk_drew ?_ | refine blk_alloc ?_ _)); refine blk_put (cs := #[.int .i64 t109, .int .i64 t110, .int .i64 t111, .slice none 0 0]) ?_ 3 _ rfl; (with_reducible repeat (first | refine blk_drewN ?_ _ | refine blk_drew ?_ | refine blk_alloc ?_ _)); refine blk_put (cs := #[.int .i64 t109, .int .i64 t110, .int .i64 0, .slice none 0 0]) ?_ 2 _ rfl; (with_reducible repeat (first | refine blk_drewN ?_ _ | refine blk_drew ?_ | refine blk_alloc ?_ _)); refine blk_put (cs := #[.int .i64 t109, .int .i64 0, .int .i64 0, .slice none 0 0]) ?_ 1 _ rfl; (with_reducible repeat (first | refine blk_drewN ?_ _ | refine blk_drew ?_ | refine blk_alloc ?_ _)); refine blk_put (cs := #[.int .i64 0, .int .i64 0, .int .i64 0, .slice none 0 0]) ?_ 0 _ rfl; (with_reducible repeat (first | refine blk_drewN ?_ _ | refine blk_drew ?_ | refine blk_alloc ?_ _)); exact BK116.out) : P := h
theorem Z3.z10 {P : Prop} (h : P := by (with_reducible repeat (first | refine blk_drewN ?_ _ | refine blk_drew ?_ | refine blk_alloc ?_ _)); refine blk_put (cs := #[.int .i64 t121, .int .i64 t122, .int .i64 t123, .slice none 0 0]) ?_ 3 _ rfl; (with_reducible repeat (first | refine blk_drewN ?_ _ | refine blk_drew ?_ | refine blk_alloc ?_ _)); refine blk_put (cs := #[.int .i64 t121, .int .i64 t122, .int .i64 0, .slice none 0 0]) ?_ 2 _ rfl; (with_reducible repeat (first | refine blk_drewN ?_ _ | refine blk_drew ?_ | refine blk_alloc ?_ _)); refine blk_put (cs := #[.int .i64 t121, .int .i64 0, .int .i64 0, .slice none 0 0]) ?_ 1 _ rfl; (with_reducible repeat (first | refine blk_drewN ?_ _ | refine blk_drew ?_ | refine blk_alloc ?_ _)); refine blk_put (cs := #[.int .i64 0, .int .i64 0, .int .i64 0, .slice none 0 0]) ?_ 0 _ rfl; (with_reducible repeat (first | refine blk_drewN ?_ _ | refine blk_drew ?_ | refine blk_alloc ?_ _)); exact BK128.out) : P := h
theorem Z3.z9 {P : Prop} (h : P := by repeat (first | (with_reducible first | exact HB.out | apply below_alloc | apply pw_below_drewN | apply below_drew1 | refine below_set ?_ GE108.out) | exact HB.out)) : P := h
theorem Z3.z8 {P : Prop} (h : P := by (with_reducible repeat (first | apply Kd.R_alloc | apply Kd.R_drewN | apply Kd.R_drew)); exact (Kd.R_mono (Kd.R_far (p := ⟨gb116, 3, none⟩) (Kd.R_far (p := ⟨gb116, 2, none⟩) (Kd.R_far (p := ⟨gb116, 1, none⟩) (Kd.R_far (p := ⟨gb116, 0, none⟩) (Kd.R_types HO106.out BK116.out (by decide)) (fun _ hk => hk.2) (.int .i64 t109)) (fun _ hk => hk.2) (.int .i64 t110)) (fun _ hk => hk.2) (.int .i64 t111)) (fun _ hk => hk.2) (.slice Ao14 t112.length co14)) (fun _ h_ => h_.1))) : P := h
theorem Z3.z7 {P : Prop} (h : P := by (with_reducible repeat (first | apply Kd.R_alloc | apply Kd.R_drewN | apply Kd.R_drew)); exact (Kd.R_mono (Kd.R_far (p := ⟨gb116, 3, none⟩) (Kd.R_far (p := ⟨gb116, 2, none⟩) (Kd.R_far (p := ⟨gb116, 1, none⟩) (Kd.R_far (p := ⟨gb116, 0, none⟩) (Kd.R_types HO114.out BK116.out (by decide)) (fun _ hk => hk.2) (.int .i64 t109)) (fun _ hk => hk.2) (.int .i64 t110)) (fun _ hk => hk.2) (.int .i64 t111)) (fun _ hk => hk.2) (.slice Ao14 t112.length co14)) (fun _ h_ => h_.1))) : P := h
theorem Z3.z6 {P : Prop} (h : P := by (with_reducible repeat (first | apply Kd.R_alloc | apply Kd.R_drewN | apply Kd.R_drew)); exact (Kd.R_mono (Kd.R_far (p := ⟨gb128, 3, none⟩) (Kd.R_far (p := ⟨gb128, 2, none⟩) (Kd.R_far (p := ⟨gb128, 1, none⟩) (Kd.R_far (p := ⟨gb128, 0, none⟩) (Kd.R_types HO126.out BK128.out (by decide)) (fun _ hk => hk.2) (.int .i64 t121)) (fun _ hk => hk.2) (.int .i64 t122)) (fun _ hk => hk.2) (.int .i64 t123)) (fun _ hk => hk.2) (.slice Ao47 t124.length co47)) (fun _ h_ => h_.1))) : P := h
theorem Z3.z5 {P : Prop} (h : P := by (with_reducible repeat (first | apply Kd.R_alloc | apply Kd.R_drewN | apply Kd.R_drew)); exact (Kd.R_mono (Kd.R_far (p := ⟨gb128, 3, none⟩) (Kd.R_far (p := ⟨gb128, 2, none⟩) (Kd.R_far (p := ⟨gb128, 1, none⟩) (Kd.R_far (p := ⟨gb128, 0, none⟩) (Kd.R_types HO_109003.out BK128.out (by decide)) (fun _ hk => hk.2) (.int .i64 t121)) (fun _ hk => hk.2) (.int .i64 t122)) (fun _ hk => hk.2) (.int .i64 t123)) (fun _ hk => hk.2) (.slice Ao47 t124.length co47)) (fun _ h_ => h_.1))) : P := h
theorem Z3.z4 {P : Prop} (h : P := by (try simp only [List.map_toArray, List.map_cons, List.map_nil]); first | done | rfl | (simp only [List.length_drop, List.length_take]; rfl)) : P := h
theorem Z3.z3 {P : Prop} (h : P := by (with_reducible repeat (first | refine blk_drewN ?_ _ | refine blk_drew ?_ | refine blk_alloc ?_ _)); exact BK116.out) : P := h
theorem Z3.z2 {P : Prop} (h : P := by (with_reducible repeat (first | refine blk_drewN ?_ _ | refine blk_drew ?_ | refine blk_alloc ?_ _)); exact BK108.out) : P := h
theorem Z3.z1 {P : Prop} (h : P := by repeat (first | (with_reducible first | exact HB.out | apply below_alloc | apply pw_below_drewN | apply below_drew1 | refine below_set ?_ GE108.out | refine below_set ?_ GE116.out | refine below_set ?_ GE128.out) | exact HB.out)) : P := h
theorem Z3.z0 {P : Prop} (h : P := by repeat (first | (with_reducible first | exact HB.out | apply below_alloc | apply pw_below_drewN | apply below_drew1 | refine below_set ?_ GE108.out | refine below_set ?_ GE116.out) | exact HB.out)) : P := h
set_option maxHeartbeats 8000000 in
set_option maxRecDepth 100000 in
theorem laws_FnExactReadMatrix.calls (k : Nat) (a0 : ByteArray) (r : Bool) (w : World) (hlP_ : LaidP w) (hlE_ : LaidE w) (hlM_ : LaidM w) (h : laws_FnExactReadMatrix.f k a0 = some r) :
  Calls Tryz.prog 3 #[.string a0] w fun e w' => e = .returned (.bool r) ∧ Below w.heap.size w w' := by
 have hu24 := Tryz.underlying24
 have HB := Z3.k (Below.refl w.heap.size w)
 have H : (if (a0.size : Int) > 1048576 then (some true) else ((spec_ReadMatrix.f k a0).bind fun bt101 => ((impl_ReadMatrix.f k a0).bind fun bt109 => ((laws_eqMatrix.f k bt109.1 bt109.2.1 bt109.2.2.1 bt109.2.2.2.1 bt101.1 bt101.2.1 bt101.2.2.1 bt101.2.2.2.1).bind fun t117 => (if t117 = true then (laws_FnExactReadMatrix.j0 k a0 bt101.2.2.2.2 (bt109.2.2.2.2 != bt101.2.2.2.2) bt101.1 bt101.2.1 bt101.2.2.1 bt101.2.2.2.1 bt109.1 bt109.2.1 bt109.2.2.1 bt109.2.2.2.1) else (laws_FnExactReadMatrix.j0 k a0 bt101.2.2.2.2 true bt101.1 bt101.2.1 bt101.2.2.1 bt101.2.2.2.1 bt109.1 bt109.2.1 bt109.2.2.1 bt109.2.2.2.1)))))) = some r := h
 clear h
 by_cases c2 : (a0.size : Int) > 1048576
 ·rw [if_pos c2] at H
  have c2b0 : decide (1048576 < (a0.size : Int)) = true := decide_eq_true c2
  have c2b1 : decide (1048576 < a0.size) = true := decide_eq_true (by omega)
  clear c2
  obtain rfl := Option.some.inj H
  go_enter Tryz.func3, Tryz.ntmps3
  go_wp2
  go_ret
  exact ⟨Z3.z16, Z3.z15⟩
 rw [if_neg c2] at H
 have c2b0 : decide (1048576 < (a0.size : Int)) = false := decide_eq_false c2
 have c2b1 : decide (1048576 < a0.size) = false := decide_eq_false (by omega)
 clear c2
 replace H := Option.bind_eq_some_iff.mp H
 obtain ⟨⟨t101, t102, t103, t104, t107⟩, A30, H⟩ := H
 replace H : ((impl_ReadMatrix.f k a0).bind fun bt109 => ((laws_eqMatrix.f k bt109.1 bt109.2.1 bt109.2.2.1 bt109.2.2.2.1 t101 t102 t103 t104).bind fun t117 => (if t117 = true then (laws_FnExactReadMatrix.j0 k a0 t107 (bt109.2.2.2.2 != t107) t101 t102 t103 t104 bt109.1 bt109.2.1 bt109.2.2.1 bt109.2.2.2.1) else (laws_FnExactReadMatrix.j0 k a0 t107 true t101 t102 t103 t104 bt109.1 bt109.2.1 bt109.2.2.1 bt109.2.2.2.1)))) = some r := H
 have A3 := Z3.k A30
 clear A30
 replace H := Option.bind_eq_some_iff.mp H
 obtain ⟨⟨t109, t110, t111, t112, t115⟩, A40, H⟩ := H
 replace H : ((laws_eqMatrix.f k t109 t110 t111 t112 t101 t102 t103 t104).bind fun t117 => (if t117 = true then (laws_FnExactReadMatrix.j0 k a0 t107 (t115 != t107) t101 t102 t103 t104 t109 t110 t111 t112) else (laws_FnExactReadMatrix.j0 k a0 t107 true t101 t102 t103 t104 t109 t110 t111 t112))) = some r := H
 have A4 := Z3.k A40
 clear A40
 have HC5 := Z3.k H
 clear H
 go_enter Tryz.func3, Tryz.ntmps3
 go_upto_region 5 with (first | ((with_reducible refine gate_callee (f := 5) rfl ?_); refine goesL_ (some 16) rfl rfl Tryz.func5 (by kernel_rfl) rfl #[.string a0] rfl Z3.z4 ?_; (with_reducible refine (spec_ReadMatrix.calls k a0 t101 t102 t103 t104 t107 _ A3.out).mono ?_); rintro e w6 ⟨v105, rfl, ho0, hb⟩; refine ⟨_, rfl, ?_⟩; have n0_ := Z3.k (Kd.R_lower ho0 (below_size Z3.z15)); have n1_ := Z3.k (below_step Z3.z15 hb); clear HB; have HO106 := n0_; have HB := n1_; clear n0_ n1_; (try clear hb); (try clear hb2); (try clear hk); (try clear hi); (try clear ho0)) | ((with_reducible refine gate_dst (N := 3) rfl ?_); refine box_event ?hg (N := 3) ?hd (cs := #[.int .i64 0, .int .i64 0, .int .i64 0, .slice none 0 0]) (t := 24) ?hr ?_; (case hd => rfl); (case hg => rfl); (case hr => first | (go_simp; done) | (go_simp; rfl)); intro gb108 hg w7 hbox hb; have n0_ := Z3.k (Kd.R_below (by (with_reducible repeat (first | apply Kd.R_alloc | apply Kd.R_drewN | apply Kd.R_drew)); exact HO106.out) hb); have n1_ := Z3.k (below_step Z3.z15 hb); have n2_ := Z3.k (hbox); have n3_ := Z3.k (show w.heap.size ≤ gb108 from (by rw [hg]; exact (below_size Z3.z15))); have n4_ := Z3.k (show w.heap.size ≤ gb108 from (by rw [hg]; exact (below_size Z3.z15))); clear HO106 HB; have HO106 := n0_; have HB := n1_; have BK108 := n2_; have GW108 := n3_; have GE108 := n4_; clear n0_ n1_ n2_ n3_ n4_; clear hb hbox hg; have hcz8_0 : w7.cell? ⟨gb108, 0, none⟩ = some (.int .i64 0) := (blk_cell BK108.out 0).trans rfl; have hcz8_1 : w7.cell? ⟨gb108, 1, none⟩ = some (.int .i64 0) := (blk_cell BK108.out 1).trans rfl; have hcz8_2 : w7.cell? ⟨gb108, 2, none⟩ = some (.int .i64 0) := (blk_cell BK108.out 2).trans rfl; have hcz8_3 : w7.cell? ⟨gb108, 3, none⟩ = some (.slice none 0 0) := (blk_cell BK108.out 3).trans rfl; have hfz8_0 := blk_frozen BK108.out 0; have hfz8_1 := blk_frozen BK108.out 1; have hfz8_2 := blk_frozen BK108.out 2; have hfz8_3 := blk_frozen BK108.out 3; obtain ⟨Ao9, co9, eo9⟩ := Kd.R_slice HO106.out; subst eo9) | ((with_reducible refine gate_callee (f := 6) rfl ?_); refine goesL_ (some 21) rfl rfl Tryz.func6 (by kernel_rfl) rfl #[.string a0] rfl Z3.z4 ?_; (with_reducible refine (impl_ReadMatrix.calls k a0 t109 t110 t111 t112 t115 _ ?side1 ?side2 ?side3 A4.out).mono ?_); (case side1 => exact (by exact LaidP.below hlP_ Z3.z9)); (case side2 => exact (by exact LaidE.below hlE_ Z3.z9)); (case side3 => exact (by exact LaidM.below hlM_ Z3.z9)); rintro e w10 ⟨v113, rfl, ho0, hb⟩; refine ⟨_, rfl, ?_⟩; have n0_ := Z3.k (Kd.R_elder' Z3.z18 (Kd.R_base ho0) hb); have n1_ := Z3.k (Kd.R_lower (Kd.R_new' ho0 (Kd.R_lt Z3.z18)) (below_size Z3.z9)); have n2_ := Z3.k (blk_below (g := gb108) (o := .cells #[.int .i64 t101, .int .i64 t102, .int .i64 t103, .slice Ao9 t104.length co9] 24 (0, 0)) (by (with_reducible repeat (first | refine blk_drewN ?_ _ | refine blk_drew ?_ | refine blk_alloc ?_ _)); refine blk_put (cs := #[.int .i64 t101, .int .i64 t102, .int .i64 t103, .slice none 0 0]) ?_ 3 _ rfl; (with_reducible repeat (first | refine blk_drewN ?_ _ | refine blk_drew ?_ | refine blk_alloc ?_ _)); refine blk_put (cs := #[.int .i64 t101, .int .i64 t102, .int .i64 0, .slice none 0 0]) ?_ 2 _ rfl; (with_reducible repeat (first | refine blk_drewN ?_ _ | refine blk_drew ?_ | refine blk_alloc ?_ _)); refine blk_put (cs := #[.int .i64 t101, .int .i64 0, .int .i64 0, .slice none 0 0]) ?_ 1 _ rfl; (with_reducible repeat (first | refine blk_drewN ?_ _ | refine blk_drew ?_ | refine blk_alloc ?_ _)); refine blk_put (cs := #[.int .i64 0, .int .i64 0, .int .i64 0, .slice none 0 0]) ?_ 0 _ rfl; (with_reducible repeat (first | refine blk_drewN ?_ _ | refine blk_drew ?_ | refine blk_alloc ?_ _)); exact BK108.out) hb); have n3_ := Z3.k (below_step Z3.z9 hb); clear HO106 BK108 HB; have HO106 := n0_; have HO114 := n1_; have BK108 := n2_; have HB := n3_; clear n0_ n1_ n2_ n3_; (try clear hb); (try clear hb2); (try clear hk); (try clear hi); (try clear ho0)) | ((with_reducible refine gate_dst (N := 5) rfl ?_); refine box_event ?hg (N := 5) ?hd (cs := #[.int .i64 0, .int .i64 0, .int .i64 0, .slice none 0 0]) (t := 24) ?hr ?_; (case hd => rfl); (case hg => rfl); (case hr => first | (go_simp; done) | (go_simp; rfl)); intro gb116 hg w11 hbox hb; have n0_ := Z3.k (Kd.R_below (by (with_reducible repeat (first | apply Kd.R_alloc | apply Kd.R_drewN | apply Kd.R_drew)); exact HO106.out) hb); have n1_ := Z3.k (Kd.R_below (by (with_reducible repeat (first | apply Kd.R_alloc | apply Kd.R_drewN | apply Kd.R_drew)); exact HO114.out) hb); have n2_ := Z3.k (Z3.bb BK108 Z3.z2 hb); have n3_ := Z3.k (below_step Z3.z9 hb); have n4_ := Z3.k (hbox); have n5_ := Z3.k (show w.heap.size ≤ gb116 from (by rw [hg]; exact (below_size Z3.z9))); have n6_ := Z3.k (show w.heap.size ≤ gb116 from (by rw [hg]; exact (below_size Z3.z9))); have n7_ := Z3.k (show gb108 ≠ gb116 from (by rw [hg]; exact Nat.ne_of_lt (Z3.bl BK108 Z3.z2))); have n8_ := Z3.k (show gb116 ≠ gb108 from (by rw [hg]; exact Nat.ne_of_gt (Z3.bl BK108 Z3.z2))); clear HO106 HO114 BK108 HB; have HO106 := n0_; have HO114 := n1_; have BK108 := n2_; have HB := n3_; have BK116 := n4_; have GW116 := n5_; have GE116 := n6_; have NB108_116 := n7_; have NB116_108 := n8_; clear n0_ n1_ n2_ n3_ n4_ n5_ n6_ n7_ n8_; clear hb hbox hg; have hnb12 := NB116_108.out; have hnc12 := NB108_116.out; have hcz13_0 : w11.cell? ⟨gb116, 0, none⟩ = some (.int .i64 0) := (blk_cell BK116.out 0).trans rfl; have hcz13_1 : w11.cell? ⟨gb116, 1, none⟩ = some (.int .i64 0) := (blk_cell BK116.out 1).trans rfl; have hcz13_2 : w11.cell? ⟨gb116, 2, none⟩ = some (.int .i64 0) := (blk_cell BK116.out 2).trans rfl; have hcz13_3 : w11.cell? ⟨gb116, 3, none⟩ = some (.slice none 0 0) := (blk_cell BK116.out 3).trans rfl; have hfz13_0 := blk_frozen BK116.out 0; have hfz13_1 := blk_frozen BK116.out 1; have hfz13_2 := blk_frozen BK116.out 2; have hfz13_3 := blk_frozen BK116.out 3; obtain ⟨Ao14, co14, eo14⟩ := Kd.R_slice HO114.out; subst eo14))
 (try simp only [Act.put, List.setIfInBounds_toArray, List.set_cons_zero, List.set_cons_succ])
 go_cut [32] (fun v32 wc => ∃ (kq : Nat) (x32_4 : Bool), v32 = .bool x32_4 ∧ Aside0 (laws_FnExactReadMatrix.j0 kq a0 t107 x32_4 t101 t102 t103 t104 t109 t110 t111 t112 = some r) ∧ Aside0 (kq ≤ k) ∧ Aside0 (Kd.R (Kd.int .i64) 2 wc w.heap.size (fun k_ => some k_ ≠ ((.slice Ao14 t112.length co14) : Value).ownBlock) (.slice Ao9 t104.length co9) t104) ∧ Aside0 (Kd.R (Kd.int .i64) 2 wc w.heap.size (fun k_ => some k_ ≠ ((.slice Ao9 t104.length co9) : Value).ownBlock) (.slice Ao14 t112.length co14) t112) ∧ Aside0 (wc.heap[gb108]? = some (.cells #[.int .i64 t101, .int .i64 t102, .int .i64 t103, (.slice Ao9 t104.length co9)] 24 (0, 0))) ∧ Aside0 (wc.heap[gb116]? = some (.cells #[.int .i64 t109, .int .i64 t110, .int .i64 t111, (.slice Ao14 t112.length co14)] 24 (0, 0))) ∧ Aside0 (Below w.heap.size w wc))
 case first =>
  have H := HC5.out
  clear HC5
  replace H := Option.bind_eq_some_iff.mp H
  obtain ⟨t117, A150, H⟩ := H
  replace H : (if t117 = true then (laws_FnExactReadMatrix.j0 k a0 t107 (t115 != t107) t101 t102 t103 t104 t109 t110 t111 t112) else (laws_FnExactReadMatrix.j0 k a0 t107 true t101 t102 t103 t104 t109 t110 t111 t112)) = some r := H
  have A15 := Z3.k A150
  clear A150
  by_cases c16 : t117 = true
  ·subst c16
   have H1 : (laws_FnExactReadMatrix.j0 k a0 t107 (t115 != t107) t101 t102 t103 t104 t109 t110 t111 t112) = some r := by rw [if_pos rfl] at H; exact H
   clear H
   have H := H1
   clear H1
   have H' := Z3.k H
   clear H
   have hnb17 := NB116_108.out
   have hnc17 := NB108_116.out
   have hcz18_0 : w11.cell? ⟨gb116, 0, none⟩ = some (.int .i64 0) := (blk_cell BK116.out 0).trans rfl
   have hcz18_1 : w11.cell? ⟨gb116, 1, none⟩ = some (.int .i64 0) := (blk_cell BK116.out 1).trans rfl
   have hcz18_2 : w11.cell? ⟨gb116, 2, none⟩ = some (.int .i64 0) := (blk_cell BK116.out 2).trans rfl
   have hcz18_3 : w11.cell? ⟨gb116, 3, none⟩ = some (.slice none 0 0) := (blk_cell BK116.out 3).trans rfl
   have hfz18_0 := blk_frozen BK116.out 0
   have hfz18_1 := blk_frozen BK116.out 1
   have hfz18_2 := blk_frozen BK116.out 2
   have hfz18_3 := blk_frozen BK116.out 3
   have hcz19_0 : w11.cell? ⟨gb108, 0, none⟩ = some (.int .i64 t101) := (blk_cell BK108.out 0).trans rfl
   have hcz19_1 : w11.cell? ⟨gb108, 1, none⟩ = some (.int .i64 t102) := (blk_cell BK108.out 1).trans rfl
   have hcz19_2 : w11.cell? ⟨gb108, 2, none⟩ = some (.int .i64 t103) := (blk_cell BK108.out 2).trans rfl
   have hcz19_3 : w11.cell? ⟨gb108, 3, none⟩ = some (.slice Ao9 t104.length co9) := (blk_cell BK108.out 3).trans rfl
   have hfz19_0 := blk_frozen BK108.out 0
   have hfz19_1 := blk_frozen BK108.out 1
   have hfz19_2 := blk_frozen BK108.out 2
   have hfz19_3 := blk_frozen BK108.out 3
   go_wp2_with (first | ((with_reducible refine gate_callee (f := 7) rfl ?_); refine goesL_ (some 26) rfl rfl Tryz.func7 (by kernel_rfl) rfl #[.agg #[.int .i64 t109, .int .i64 t110, .int .i64 t111, .slice Ao14 t112.length co14], .agg #[.int .i64 t101, .int .i64 t102, .int .i64 t103, .slice Ao9 t104.length co9]] rfl Z3.z4 ?_; (with_reducible refine (laws_eqMatrix.calls k t109 t110 t111 _ _ t112 t101 t102 t103 _ _ t104 true _ ?side1 ?side2 ?side3 ?side4 A15.out).mono ?_); (case side1 => exact Z3.z26); (case side2 => exact (Kd.R_reads' HO114.out).2.1); (case side3 => exact Z3.z25); (case side4 => exact (Kd.R_reads' HO106.out).2.1); rintro e w20 ⟨rfl, hb⟩; refine ⟨_, rfl, ?_⟩; have n0_ := Z3.k (Kd.R_below Z3.z8 hb); have n1_ := Z3.k (Kd.R_below Z3.z7 hb); have n2_ := Z3.k (Z3.bb BK108 Z3.z29 hb); have n3_ := Z3.k (blk_below (g := gb116) (o := .cells #[.int .i64 t109, .int .i64 t110, .int .i64 t111, .slice Ao14 t112.length co14] 24 (0, 0)) Z3.z11 hb); have n4_ := Z3.k (below_step Z3.z0 hb); clear HO106 HO114 BK108 BK116 HB; have HO106 := n0_; have HO114 := n1_; have BK108 := n2_; have BK116 := n3_; have HB := n4_; clear n0_ n1_ n2_ n3_ n4_; (try clear hb); (try clear hb2); (try clear hk); (try clear hi)))
   go_meet
   case rel => exact ⟨_, ((t115 != t107)), (by first | rfl | (simp; done) | (simp [*]; done)), H', ⟨(by first | omega | exact Nat.le_refl _)⟩, ⟨Z3.z32⟩, ⟨Z3.z31⟩, ⟨Z3.z2⟩, ⟨Z3.z3⟩, ⟨Z3.z0⟩⟩
  replace c16 := Bool.eq_false_iff.mpr c16
  subst c16
  have H1 : (laws_FnExactReadMatrix.j0 k a0 t107 true t101 t102 t103 t104 t109 t110 t111 t112) = some r := by rw [if_neg (show ¬ (false = true) by decide)] at H; exact H
  clear H
  have H := H1
  clear H1
  have H' := Z3.k H
  clear H
  have hnb21 := NB116_108.out
  have hnc21 := NB108_116.out
  have hcz22_0 : w11.cell? ⟨gb116, 0, none⟩ = some (.int .i64 0) := (blk_cell BK116.out 0).trans rfl
  have hcz22_1 : w11.cell? ⟨gb116, 1, none⟩ = some (.int .i64 0) := (blk_cell BK116.out 1).trans rfl
  have hcz22_2 : w11.cell? ⟨gb116, 2, none⟩ = some (.int .i64 0) := (blk_cell BK116.out 2).trans rfl
  have hcz22_3 : w11.cell? ⟨gb116, 3, none⟩ = some (.slice none 0 0) := (blk_cell BK116.out 3).trans rfl
  have hfz22_0 := blk_frozen BK116.out 0
  have hfz22_1 := blk_frozen BK116.out 1
  have hfz22_2 := blk_frozen BK116.out 2
  have hfz22_3 := blk_frozen BK116.out 3
  have hcz23_0 : w11.cell? ⟨gb108, 0, none⟩ = some (.int .i64 t101) := (blk_cell BK108.out 0).trans rfl
  have hcz23_1 : w11.cell? ⟨gb108, 1, none⟩ = some (.int .i64 t102) := (blk_cell BK108.out 1).trans rfl
  have hcz23_2 : w11.cell? ⟨gb108, 2, none⟩ = some (.int .i64 t103) := (blk_cell BK108.out 2).trans rfl
  have hcz23_3 : w11.cell? ⟨gb108, 3, none⟩ = some (.slice Ao9 t104.length co9) := (blk_cell BK108.out 3).trans rfl
  have hfz23_0 := blk_frozen BK108.out 0
  have hfz23_1 := blk_frozen BK108.out 1
  have hfz23_2 := blk_frozen BK108.out 2
  have hfz23_3 := blk_frozen BK108.out 3
  go_wp2_with (first | ((with_reducible refine gate_callee (f := 7) rfl ?_); refine goesL_ (some 26) rfl rfl Tryz.func7 (by kernel_rfl) rfl #[.agg #[.int .i64 t109, .int .i64 t110, .int .i64 t111, .slice Ao14 t112.length co14], .agg #[.int .i64 t101, .int .i64 t102, .int .i64 t103, .slice Ao9 t104.length co9]] rfl Z3.z4 ?_; (with_reducible refine (laws_eqMatrix.calls k t109 t110 t111 _ _ t112 t101 t102 t103 _ _ t104 false _ ?side1 ?side2 ?side3 ?side4 A15.out).mono ?_); (case side1 => exact Z3.z26); (case side2 => exact (Kd.R_reads' HO114.out).2.1); (case side3 => exact Z3.z25); (case side4 => exact (Kd.R_reads' HO106.out).2.1); rintro e w24 ⟨rfl, hb⟩; refine ⟨_, rfl, ?_⟩; have n0_ := Z3.k (Kd.R_below Z3.z8 hb); have n1_ := Z3.k (Kd.R_below Z3.z7 hb); have n2_ := Z3.k (Z3.bb BK108 Z3.z29 hb); have n3_ := Z3.k (blk_below (g := gb116) (o := .cells #[.int .i64 t109, .int .i64 t110, .int .i64 t111, .slice Ao14 t112.length co14] 24 (0, 0)) Z3.z11 hb); have n4_ := Z3.k (below_step Z3.z0 hb); clear HO106 HO114 BK108 BK116 HB; have HO106 := n0_; have HO114 := n1_; have BK108 := n2_; have BK116 := n3_; have HB := n4_; clear n0_ n1_ n2_ n3_ n4_; (try clear hb); (try clear hb2); (try clear hk); (try clear hi)))
  go_meet
  case rel => exact ⟨_, (true), (by first | rfl | (simp; done) | (simp [*]; done)), H', ⟨(by first | omega | exact Nat.le_refl _)⟩, ⟨Z3.z32⟩, ⟨Z3.z31⟩, ⟨Z3.z2⟩, ⟨Z3.z3⟩, ⟨Z3.z0⟩⟩
 case rest =>
  clear HC5
  try clear c1
  try clear c2
  try clear c2b0
  try clear c2b1
  try clear p2
  try clear c3
  try clear c5
  try clear c6
  try clear c7
  try clear c12
  try clear c16
  try clear c17
  try clear c21
  try clear hcz13_0
  try clear hcz13_1
  try clear hcz13_2
  try clear hcz13_3
  try clear hcz18_0
  try clear hcz18_1
  try clear hcz18_2
  try clear hcz18_3
  try clear hcz19_0
  try clear hcz19_1
  try clear hcz19_2
  try clear hcz19_3
  try clear hcz22_0
  try clear hcz22_1
  try clear hcz22_2
  try clear hcz22_3
  try clear hcz23_0
  try clear hcz23_1
  try clear hcz23_2
  try clear hcz23_3
  try clear hcz8_0
  try clear hcz8_1
  try clear hcz8_2
  try clear hcz8_3
  try clear hfz13_0
  try clear hfz13_1
  try clear hfz13_2
  try clear hfz13_3
  try clear hfz18_0
  try clear hfz18_1
  try clear hfz18_2
  try clear hfz18_3
  try clear hfz19_0
  try clear hfz19_1
  try clear hfz19_2
  try clear hfz19_3
  try clear hfz22_0
  try clear hfz22_1
  try clear hfz22_2
  try clear hfz22_3
  try clear hfz23_0
  try clear hfz23_1
  try clear hfz23_2
  try clear hfz23_3
  try clear hfz8_0
  try clear hfz8_1
  try clear hfz8_2
  try clear hfz8_3
  obtain ⟨kq, x32_4, rfl, HA, HJ4, HO_109003, HO_117003, BK108, BK116, HB⟩ := hcut
  cases kq with
  | zero => exact absurd HA.out (by simp [laws_FnExactReadMatrix.j0])
  | succ kj4 =>
   have H := HA.out
   clear HA
   simp only [laws_FnExactReadMatrix.j0] at H
   by_cases c25 : x32_4 = true
   ·subst c25
    have H1 : (some false) = some r := by rw [if_pos rfl] at H; exact H
    clear H
    have H := H1
    clear H1
    obtain rfl := Option.some.inj H
    go_wp2
    go_ret
    exact ⟨Z3.z16, Z3.z0⟩
   replace c25 := Bool.eq_false_iff.mpr c25
   subst c25
   have H1 : ((laws_markMatrix.f kj4 t109 t110 t111 t112 1).bind fun bt118 => ((laws_heldMatrix.f kj4 t109 t110 t111 bt118.2 1).bind fun t120 => (if t120 < 0 then (some false) else (if t120 = bt118.1 then ((impl_ReadMatrix.f kj4 a0).bind fun bt121 => ((laws_eqMatrix.f kj4 bt121.1 bt121.2.1 bt121.2.2.1 bt121.2.2.2.1 t101 t102 t103 t104).bind fun t129 => (if t129 = true then (laws_FnExactReadMatrix.j1 kj4 bt118.1 (bt121.2.2.2.2 != t107) t109 t110 t111 bt118.2) else (laws_FnExactReadMatrix.j1 kj4 bt118.1 true t109 t110 t111 bt118.2)))) else (some false))))) = some r := by rw [if_neg (show ¬ (false = true) by decide)] at H; exact H
   clear H
   have H := H1
   clear H1
   replace H := Option.bind_eq_some_iff.mp H
   obtain ⟨⟨t118, t119⟩, A260, H⟩ := H
   replace H : ((laws_heldMatrix.f kj4 t109 t110 t111 t119 1).bind fun t120 => (if t120 < 0 then (some false) else (if t120 = t118 then ((impl_ReadMatrix.f kj4 a0).bind fun bt121 => ((laws_eqMatrix.f kj4 bt121.1 bt121.2.1 bt121.2.2.1 bt121.2.2.2.1 t101 t102 t103 t104).bind fun t129 => (if t129 = true then (laws_FnExactReadMatrix.j1 kj4 t118 (bt121.2.2.2.2 != t107) t109 t110 t111 t119) else (laws_FnExactReadMatrix.j1 kj4 t118 true t109 t110 t111 t119)))) else (some false)))) = some r := H
   have A26 := Z3.k A260
   clear A260
   replace H := Option.bind_eq_some_iff.mp H
   obtain ⟨t120, A270, H⟩ := H
   replace H : (if t120 < 0 then (some false) else (if t120 = t118 then ((impl_ReadMatrix.f kj4 a0).bind fun bt121 => ((laws_eqMatrix.f kj4 bt121.1 bt121.2.1 bt121.2.2.1 bt121.2.2.2.1 t101 t102 t103 t104).bind fun t129 => (if t129 = true then (laws_FnExactReadMatrix.j1 kj4 t118 (bt121.2.2.2.2 != t107) t109 t110 t111 t119) else (laws_FnExactReadMatrix.j1 kj4 t118 true t109 t110 t111 t119)))) else (some false))) = some r := H
   have A27 := Z3.k A270
   clear A270
   by_cases c28 : t120 < 0
   ·rw [if_pos c28] at H
    have c28b0 : decide (t120 < 0) = true := decide_eq_true c28
    clear c28
    obtain rfl := Option.some.inj H
    have hnb29 := NB116_108.out
    have hnc29 := NB108_116.out
    have hcz30_0 : wc.cell? ⟨gb116, 0, none⟩ = some (.int .i64 t109) := (blk_cell BK116.out 0).trans rfl
    have hcz30_1 : wc.cell? ⟨gb116, 1, none⟩ = some (.int .i64 t110) := (blk_cell BK116.out 1).trans rfl
    have hcz30_2 : wc.cell? ⟨gb116, 2, none⟩ = some (.int .i64 t111) := (blk_cell BK116.out 2).trans rfl
    have hcz30_3 : wc.cell? ⟨gb116, 3, none⟩ = some (.slice Ao14 t112.length co14) := (blk_cell BK116.out 3).trans rfl
    have hfz30_0 := blk_frozen BK116.out 0
    have hfz30_1 := blk_frozen BK116.out 1
    have hfz30_2 := blk_frozen BK116.out 2
    have hfz30_3 := blk_frozen BK116.out 3
    go_wp2_with (first | ((with_reducible refine gate_callee (f := 8) rfl ?_); refine goesL_ (some 35) rfl rfl Tryz.func8 (by kernel_rfl) rfl #[.agg #[.int .i64 t109, .int .i64 t110, .int .i64 t111, .slice Ao14 t112.length co14], .int .i64 1] rfl Z3.z4 ?_; (with_reducible refine (laws_markMatrix.calls kj4 t109 t110 t111 (fun k_ => some k_ = (.slice Ao14 t112.length co14 : Value).ownBlock) (.slice Ao14 t112.length co14) t112 1 t118 t119 w _ ?side1 ?side2 A26.out).mono ?_); (case side1 => exact Z3.z0); (case side2 => exact Kd.R_tight rfl HO_117003.out); rintro e w31 ⟨rfl, hy0, hb, hkp⟩; refine ⟨_, rfl, ?_⟩; have n0_ := Z3.k (Kd.R_mono (ok' := fun k_ => some k_ ≠ (.slice Ao14 t112.length co14 : Value).ownBlock) (Kd.R_keptB (HO_109003.out) hkp (fun k_ hk_ hs_ => (hk_) hs_)) (fun k_ hk_ => hk_.1)); have n1_ := Z3.k (Kd.R_reok rfl hy0 (fun k_ e_ => HO_117003.out.1 k_ e_)); have n2_ := Z3.k (blk_kept Z3.z2 hkp (fun hs_ => (fun e_ => (Kd.R_ne HO_117003.out BK108.out (by decide)) e_) hs_)); have n3_ := Z3.k (blk_kept Z3.z3 hkp (fun hs_ => (fun e_ => (Kd.R_ne HO_117003.out BK116.out (by decide)) e_) hs_)); have n4_ := Z3.k (hb); clear HO_109003 HO_117003 BK108 BK116 HB; have HO_109003 := n0_; have HO_117003 := n1_; have BK108 := n2_; have BK116 := n3_; have HB := n4_; clear n0_ n1_ n2_ n3_ n4_; (try clear hb); (try clear hkp); (try clear hy0); have hcz32_0 : w31.cell? ⟨gb116, 0, none⟩ = some (.int .i64 t109) := (blk_cell BK116.out 0).trans rfl; have hcz32_1 : w31.cell? ⟨gb116, 1, none⟩ = some (.int .i64 t110) := (blk_cell BK116.out 1).trans rfl; have hcz32_2 : w31.cell? ⟨gb116, 2, none⟩ = some (.int .i64 t111) := (blk_cell BK116.out 2).trans rfl; have hcz32_3 : w31.cell? ⟨gb116, 3, none⟩ = some (.slice Ao14 t112.length co14) := (blk_cell BK116.out 3).trans rfl; have hfz32_0 := blk_frozen BK116.out 0; have hfz32_1 := blk_frozen BK116.out 1; have hfz32_2 := blk_frozen BK116.out 2; have hfz32_3 := blk_frozen BK116.out 3) | ((with_reducible refine gate_callee (f := 9) rfl ?_); refine goesL_ (some 38) rfl rfl Tryz.func9 (by kernel_rfl) rfl #[.agg #[.int .i64 t109, .int .i64 t110, .int .i64 t111, .slice Ao14 t119.length co14], .int .i64 1] rfl Z3.z19 ?_; (with_reducible refine (laws_heldMatrix.calls kj4 t109 t110 t111 _ _ t119 1 t120 _ ?side1 ?side2 A27.out).mono ?_); (case side1 => exact Z3.z14); (case side2 => exact Z3.z23); rintro e w33 ⟨rfl, hb⟩; refine ⟨_, rfl, ?_⟩; have n0_ := Z3.k (Kd.R_below Z3.z13 hb); have n1_ := Z3.k (Kd.R_below Z3.z12 hb); have n2_ := Z3.k (Z3.bb BK108 Z3.z2 hb); have n3_ := Z3.k (Z3.bb BK116 Z3.z3 hb); have n4_ := Z3.k (below_step Z3.z0 hb); clear HO_109003 HO_117003 BK108 BK116 HB; have HO_109003 := n0_; have HO_117003 := n1_; have BK108 := n2_; have BK116 := n3_; have HB := n4_; clear n0_ n1_ n2_ n3_ n4_; (try clear hb); (try clear hb2); (try clear hk); (try clear hi)))
    go_ret
    exact ⟨Z3.z16, Z3.z0⟩
   rw [if_neg c28] at H
   have c28b0 : decide (t120 < 0) = false := decide_eq_false c28
   clear c28
   by_cases c34 : t120 = t118
   ·rw [if_pos c34] at H
    have c34b0 : (t120 == t118) = true := beq_iff_eq.mpr c34
    have c34b1 : (t120 != t118) = false := bne_eq_false_iff_eq.mpr c34
    clear c34
    replace H := Option.bind_eq_some_iff.mp H
    obtain ⟨⟨t121, t122, t123, t124, t127⟩, A350, H⟩ := H
    replace H : ((laws_eqMatrix.f kj4 t121 t122 t123 t124 t101 t102 t103 t104).bind fun t129 => (if t129 = true then (laws_FnExactReadMatrix.j1 kj4 t118 (t127 != t107) t109 t110 t111 t119) else (laws_FnExactReadMatrix.j1 kj4 t118 true t109 t110 t111 t119))) = some r := H
    have A35 := Z3.k A350
    clear A350
    have HC36 := Z3.k H
    clear H
    have hnb37 := NB116_108.out
    have hnc37 := NB108_116.out
    have hcz38_0 : wc.cell? ⟨gb116, 0, none⟩ = some (.int .i64 t109) := (blk_cell BK116.out 0).trans rfl
    have hcz38_1 : wc.cell? ⟨gb116, 1, none⟩ = some (.int .i64 t110) := (blk_cell BK116.out 1).trans rfl
    have hcz38_2 : wc.cell? ⟨gb116, 2, none⟩ = some (.int .i64 t111) := (blk_cell BK116.out 2).trans rfl
    have hcz38_3 : wc.cell? ⟨gb116, 3, none⟩ = some (.slice Ao14 t112.length co14) := (blk_cell BK116.out 3).trans rfl
    have hfz38_0 := blk_frozen BK116.out 0
    have hfz38_1 := blk_frozen BK116.out 1
    have hfz38_2 := blk_frozen BK116.out 2
    have hfz38_3 := blk_frozen BK116.out 3
    go_upto_region 16 with (first | ((with_reducible refine gate_callee (f := 8) rfl ?_); refine goesL_ (some 35) rfl rfl Tryz.func8 (by kernel_rfl) rfl #[.agg #[.int .i64 t109, .int .i64 t110, .int .i64 t111, .slice Ao14 t112.length co14], .int .i64 1] rfl Z3.z4 ?_; (with_reducible refine (laws_markMatrix.calls kj4 t109 t110 t111 (fun k_ => some k_ = (.slice Ao14 t112.length co14 : Value).ownBlock) (.slice Ao14 t112.length co14) t112 1 t118 t119 w _ ?side1 ?side2 A26.out).mono ?_); (case side1 => exact Z3.z0); (case side2 => exact Kd.R_tight rfl HO_117003.out); rintro e w39 ⟨rfl, hy0, hb, hkp⟩; refine ⟨_, rfl, ?_⟩; have n0_ := Z3.k (Kd.R_mono (ok' := fun k_ => some k_ ≠ (.slice Ao14 t112.length co14 : Value).ownBlock) (Kd.R_keptB (HO_109003.out) hkp (fun k_ hk_ hs_ => (hk_) hs_)) (fun k_ hk_ => hk_.1)); have n1_ := Z3.k (Kd.R_reok rfl hy0 (fun k_ e_ => HO_117003.out.1 k_ e_)); have n2_ := Z3.k (blk_kept Z3.z2 hkp (fun hs_ => (fun e_ => (Kd.R_ne HO_117003.out BK108.out (by decide)) e_) hs_)); have n3_ := Z3.k (blk_kept Z3.z3 hkp (fun hs_ => (fun e_ => (Kd.R_ne HO_117003.out BK116.out (by decide)) e_) hs_)); have n4_ := Z3.k (hb); clear HO_109003 HO_117003 BK108 BK116 HB; have HO_109003 := n0_; have HO_117003 := n1_; have BK108 := n2_; have BK116 := n3_; have HB := n4_; clear n0_ n1_ n2_ n3_ n4_; (try clear hb); (try clear hkp); (try clear hy0); have hcz40_0 : w39.cell? ⟨gb116, 0, none⟩ = some (.int .i64 t109) := (blk_cell BK116.out 0).trans rfl; have hcz40_1 : w39.cell? ⟨gb116, 1, none⟩ = some (.int .i64 t110) := (blk_cell BK116.out 1).trans rfl; have hcz40_2 : w39.cell? ⟨gb116, 2, none⟩ = some (.int .i64 t111) := (blk_cell BK116.out 2).trans rfl; have hcz40_3 : w39.cell? ⟨gb116, 3, none⟩ = some (.slice Ao14 t112.length co14) := (blk_cell BK116.out 3).trans rfl; have hfz40_0 := blk_frozen BK116.out 0; have hfz40_1 := blk_frozen BK116.out 1; have hfz40_2 := blk_frozen BK116.out 2; have hfz40_3 := blk_frozen BK116.out 3) | ((with_reducible refine gate_callee (f := 9) rfl ?_); refine goesL_ (some 38) rfl rfl Tryz.func9 (by kernel_rfl) rfl #[.agg #[.int .i64 t109, .int .i64 t110, .int .i64 t111, .slice Ao14 t119.length co14], .int .i64 1] rfl Z3.z19 ?_; (with_reducible refine (laws_heldMatrix.calls kj4 t109 t110 t111 _ _ t119 1 t120 _ ?side1 ?side2 A27.out).mono ?_); (case side1 => exact Z3.z14); (case side2 => exact Z3.z23); rintro e w41 ⟨rfl, hb⟩; refine ⟨_, rfl, ?_⟩; have n0_ := Z3.k (Kd.R_below Z3.z13 hb); have n1_ := Z3.k (Kd.R_below Z3.z12 hb); have n2_ := Z3.k (Z3.bb BK108 Z3.z2 hb); have n3_ := Z3.k (Z3.bb BK116 Z3.z3 hb); have n4_ := Z3.k (below_step Z3.z0 hb); clear HO_109003 HO_117003 BK108 BK116 HB; have HO_109003 := n0_; have HO_117003 := n1_; have BK108 := n2_; have BK116 := n3_; have HB := n4_; clear n0_ n1_ n2_ n3_ n4_; (try clear hb); (try clear hb2); (try clear hk); (try clear hi)) | ((with_reducible refine gate_callee (f := 6) rfl ?_); refine goesL_ (some 46) rfl rfl Tryz.func6 (by kernel_rfl) rfl #[.string a0] rfl Z3.z4 ?_; (with_reducible refine (impl_ReadMatrix.calls kj4 a0 t121 t122 t123 t124 t127 _ ?side1 ?side2 ?side3 A35.out).mono ?_); (case side1 => exact (by exact LaidP.below hlP_ Z3.z0)); (case side2 => exact (by exact LaidE.below hlE_ Z3.z0)); (case side3 => exact (by exact LaidM.below hlM_ Z3.z0)); rintro e w42 ⟨v125, rfl, ho0, hb⟩; refine ⟨_, rfl, ?_⟩; have n0_ := Z3.k (Kd.R_elder' Z3.z13 (Kd.R_base ho0) hb); have n1_ := Z3.k (Kd.R_elder' Z3.z12 (Kd.R_base ho0) hb); have n2_ := Z3.k (Kd.R_lower (Kd.R_new' (Kd.R_new' ho0 (Kd.R_lt Z3.z13)) (Kd.R_lt Z3.z12)) (below_size Z3.z0)); have n3_ := Z3.k (Z3.bb BK108 Z3.z2 hb); have n4_ := Z3.k (Z3.bb BK116 Z3.z3 hb); have n5_ := Z3.k (below_step Z3.z0 hb); clear HO_109003 HO_117003 BK108 BK116 HB; have HO_109003 := n0_; have HO_117003 := n1_; have HO126 := n2_; have BK108 := n3_; have BK116 := n4_; have HB := n5_; clear n0_ n1_ n2_ n3_ n4_ n5_; (try clear hb); (try clear hb2); (try clear hk); (try clear hi); (try clear ho0)) | ((with_reducible refine gate_dst (N := 9) rfl ?_); refine box_event ?hg (N := 9) ?hd (cs := #[.int .i64 0, .int .i64 0, .int .i64 0, .slice none 0 0]) (t := 24) ?hr ?_; (case hd => rfl); (case hg => rfl); (case hr => first | (go_simp; done) | (go_simp; rfl)); intro gb128 hg w43 hbox hb; have n0_ := Z3.k (Kd.R_below Z3.z13 hb); have n1_ := Z3.k (Kd.R_below Z3.z12 hb); have n2_ := Z3.k (Kd.R_below (by (with_reducible repeat (first | apply Kd.R_alloc | apply Kd.R_drewN | apply Kd.R_drew)); exact HO126.out) hb); have n3_ := Z3.k (Z3.bb BK108 Z3.z2 hb); have n4_ := Z3.k (Z3.bb BK116 Z3.z3 hb); have n5_ := Z3.k (below_step Z3.z0 hb); have n6_ := Z3.k (hbox); have n7_ := Z3.k (show w.heap.size ≤ gb128 from (by rw [hg]; exact (below_size Z3.z0))); have n8_ := Z3.k (show w.heap.size ≤ gb128 from (by rw [hg]; exact (below_size Z3.z0))); have n9_ := Z3.k (show gb108 ≠ gb128 from (by rw [hg]; exact Nat.ne_of_lt (Z3.bl BK108 Z3.z2))); have n10_ := Z3.k (show gb128 ≠ gb108 from (by rw [hg]; exact Nat.ne_of_gt (Z3.bl BK108 Z3.z2))); have n11_ := Z3.k (show gb116 ≠ gb128 from (by rw [hg]; exact Nat.ne_of_lt (Z3.bl BK116 Z3.z3))); have n12_ := Z3.k (show gb128 ≠ gb116 from (by rw [hg]; exact Nat.ne_of_gt (Z3.bl BK116 Z3.z3))); clear HO_109003 HO_117003 HO126 BK108 BK116 HB; have HO_109003 := n0_; have HO_117003 := n1_; have HO126 := n2_; have BK108 := n3_; have BK116 := n4_; have HB := n5_; have BK128 := n6_; have GW128 := n7_; have GE128 := n8_; have NB108_128 := n9_; have NB128_108 := n10_; have NB116_128 := n11_; have NB128_116 := n12_; clear n0_ n1_ n2_ n3_ n4_ n5_ n6_ n7_ n8_ n9_ n10_ n11_ n12_; clear hb hbox hg; have hnb44 := NB128_108.out; have hnc44 := NB108_128.out; have hnb45 := NB128_116.out; have hnc45 := NB116_128.out; have hcz46_0 : w43.cell? ⟨gb128, 0, none⟩ = some (.int .i64 0) := (blk_cell BK128.out 0).trans rfl; have hcz46_1 : w43.cell? ⟨gb128, 1, none⟩ = some (.int .i64 0) := (blk_cell BK128.out 1).trans rfl; have hcz46_2 : w43.cell? ⟨gb128, 2, none⟩ = some (.int .i64 0) := (blk_cell BK128.out 2).trans rfl; have hcz46_3 : w43.cell? ⟨gb128, 3, none⟩ = some (.slice none 0 0) := (blk_cell BK128.out 3).trans rfl; have hfz46_0 := blk_frozen BK128.out 0; have hfz46_1 := blk_frozen BK128.out 1; have hfz46_2 := blk_frozen BK128.out 2; have hfz46_3 := blk_frozen BK128.out 3; obtain ⟨Ao47, co47, eo47⟩ := Kd.R_slice HO126.out; subst eo47))
    (try simp only [Act.put, List.setIfInBounds_toArray, List.set_cons_zero, List.set_cons_succ])
    go_cut [57] (fun v57 wc => ∃ (kq : Nat) (x57_35 : Bool), v57 = .bool x57_35 ∧ Aside0 (laws_FnExactReadMatrix.j1 kq t118 x57_35 t109 t110 t111 t119 = some r) ∧ Aside0 (kq ≤ kj4) ∧ Aside0 (Kd.R (Kd.int .i64) 2 wc w.heap.size (fun k_ => some k_ ≠ ((.slice Ao14 t112.length co14) : Value).ownBlock ∧ some k_ ≠ ((.slice Ao47 t124.length co47) : Value).ownBlock) (.slice Ao9 t104.length co9) t104) ∧ Aside0 (Kd.R (Kd.int .i64) 2 wc w.heap.size (fun k_ => some k_ ≠ ((.slice Ao9 t104.length co9) : Value).ownBlock ∧ some k_ ≠ ((.slice Ao47 t124.length co47) : Value).ownBlock) (.slice Ao14 t112.length co14) t119) ∧ Aside0 (Kd.R (Kd.int .i64) 2 wc w.heap.size (fun k_ => some k_ ≠ ((.slice Ao9 t104.length co9) : Value).ownBlock ∧ some k_ ≠ ((.slice Ao14 t112.length co14) : Value).ownBlock) (.slice Ao47 t124.length co47) t124) ∧ Aside0 (wc.heap[gb108]? = some (.cells #[.int .i64 t101, .int .i64 t102, .int .i64 t103, (.slice Ao9 t104.length co9)] 24 (0, 0))) ∧ Aside0 (wc.heap[gb116]? = some (.cells #[.int .i64 t109, .int .i64 t110, .int .i64 t111, (.slice Ao14 t112.length co14)] 24 (0, 0))) ∧ Aside0 (wc.heap[gb128]? = some (.cells #[.int .i64 t121, .int .i64 t122, .int .i64 t123, (.slice Ao47 t124.length co47)] 24 (0, 0))) ∧ Aside0 (Below w.heap.size w wc))
    case first =>
     have H := HC36.out
     clear HC36
     replace H := Option.bind_eq_some_iff.mp H
     obtain ⟨t129, A480, H⟩ := H
     replace H : (if t129 = true then (laws_FnExactReadMatrix.j1 kj4 t118 (t127 != t107) t109 t110 t111 t119) else (laws_FnExactReadMatrix.j1 kj4 t118 true t109 t110 t111 t119)) = some r := H
     have A48 := Z3.k A480
     clear A480
     by_cases c49 : t129 = true
     ·subst c49
      have H1 : (laws_FnExactReadMatrix.j1 kj4 t118 (t127 != t107) t109 t110 t111 t119) = some r := by rw [if_pos rfl] at H; exact H
      clear H
      have H := H1
      clear H1
      have H' := Z3.k H
      clear H
      have hnb50 := NB128_108.out
      have hnc50 := NB108_128.out
      have hnb51 := NB128_116.out
      have hnc51 := NB116_128.out
      have hcz52_0 : w43.cell? ⟨gb128, 0, none⟩ = some (.int .i64 0) := (blk_cell BK128.out 0).trans rfl
      have hcz52_1 : w43.cell? ⟨gb128, 1, none⟩ = some (.int .i64 0) := (blk_cell BK128.out 1).trans rfl
      have hcz52_2 : w43.cell? ⟨gb128, 2, none⟩ = some (.int .i64 0) := (blk_cell BK128.out 2).trans rfl
      have hcz52_3 : w43.cell? ⟨gb128, 3, none⟩ = some (.slice none 0 0) := (blk_cell BK128.out 3).trans rfl
      have hfz52_0 := blk_frozen BK128.out 0
      have hfz52_1 := blk_frozen BK128.out 1
      have hfz52_2 := blk_frozen BK128.out 2
      have hfz52_3 := blk_frozen BK128.out 3
      have hnb53 := NB108_116.out
      have hnc53 := NB116_108.out
      have hcz54_0 : w43.cell? ⟨gb108, 0, none⟩ = some (.int .i64 t101) := (blk_cell BK108.out 0).trans rfl
      have hcz54_1 : w43.cell? ⟨gb108, 1, none⟩ = some (.int .i64 t102) := (blk_cell BK108.out 1).trans rfl
      have hcz54_2 : w43.cell? ⟨gb108, 2, none⟩ = some (.int .i64 t103) := (blk_cell BK108.out 2).trans rfl
      have hcz54_3 : w43.cell? ⟨gb108, 3, none⟩ = some (.slice Ao9 t104.length co9) := (blk_cell BK108.out 3).trans rfl
      have hfz54_0 := blk_frozen BK108.out 0
      have hfz54_1 := blk_frozen BK108.out 1
      have hfz54_2 := blk_frozen BK108.out 2
      have hfz54_3 := blk_frozen BK108.out 3
      go_wp2_with (first | ((with_reducible refine gate_callee (f := 7) rfl ?_); refine goesL_ (some 51) rfl rfl Tryz.func7 (by kernel_rfl) rfl #[.agg #[.int .i64 t121, .int .i64 t122, .int .i64 t123, .slice Ao47 t124.length co47], .agg #[.int .i64 t101, .int .i64 t102, .int .i64 t103, .slice Ao9 t104.length co9]] rfl Z3.z4 ?_; (with_reducible refine (laws_eqMatrix.calls kj4 t121 t122 t123 _ _ t124 t101 t102 t103 _ _ t104 true _ ?side1 ?side2 ?side3 ?side4 A48.out).mono ?_); (case side1 => exact Z3.z21); (case side2 => exact (Kd.R_reads' HO126.out).2.1); (case side3 => exact Z3.z22); (case side4 => exact (Kd.R_reads' HO_109003.out).2.1); rintro e w55 ⟨rfl, hb⟩; refine ⟨_, rfl, ?_⟩; have n0_ := Z3.k (Kd.R_below Z3.z5 hb); have n1_ := Z3.k (Kd.R_below Z3.z17 hb); have n2_ := Z3.k (Kd.R_below Z3.z6 hb); have n3_ := Z3.k (Z3.bb BK108 Z3.z28 hb); have n4_ := Z3.k (Z3.bb BK116 Z3.z27 hb); have n5_ := Z3.k (blk_below (g := gb128) (o := .cells #[.int .i64 t121, .int .i64 t122, .int .i64 t123, .slice Ao47 t124.length co47] 24 (0, 0)) Z3.z10 hb); have n6_ := Z3.k (below_step Z3.z1 hb); clear HO_109003 HO_117003 HO126 BK108 BK116 BK128 HB; have HO_109003 := n0_; have HO_117003 := n1_; have HO126 := n2_; have BK108 := n3_; have BK116 := n4_; have BK128 := n5_; have HB := n6_; clear n0_ n1_ n2_ n3_ n4_ n5_ n6_; (try clear hb); (try clear hb2); (try clear hk); (try clear hi)))
      go_meet
      case rel => exact ⟨_, ((t127 != t107)), (by first | rfl | (simp; done) | (simp [*]; done)), H', ⟨(by have := HJ4.out; first | omega | exact Nat.le_refl _)⟩, ⟨Z3.z13⟩, ⟨Z3.z12⟩, ⟨Z3.z30⟩, ⟨Z3.z2⟩, ⟨Z3.z3⟩, ⟨Z3.z20⟩, ⟨Z3.z1⟩⟩
     replace c49 := Bool.eq_false_iff.mpr c49
     subst c49
     have H1 : (laws_FnExactReadMatrix.j1 kj4 t118 true t109 t110 t111 t119) = some r := by rw [if_neg (show ¬ (false = true) by decide)] at H; exact H
     clear H
     have H := H1
     clear H1
     have H' := Z3.k H
     clear H
     have hnb56 := NB128_108.out
     have hnc56 := NB108_128.out
     have hnb57 := NB128_116.out
     have hnc57 := NB116_128.out
     have hcz58_0 : w43.cell? ⟨gb128, 0, none⟩ = some (.int .i64 0) := (blk_cell BK128.out 0).trans rfl
     have hcz58_1 : w43.cell? ⟨gb128, 1, none⟩ = some (.int .i64 0) := (blk_cell BK128.out 1).trans rfl
     have hcz58_2 : w43.cell? ⟨gb128, 2, none⟩ = some (.int .i64 0) := (blk_cell BK128.out 2).trans rfl
     have hcz58_3 : w43.cell? ⟨gb128, 3, none⟩ = some (.slice none 0 0) := (blk_cell BK128.out 3).trans rfl
     have hfz58_0 := blk_frozen BK128.out 0
     have hfz58_1 := blk_frozen BK128.out 1
     have hfz58_2 := blk_frozen BK128.out 2
     have hfz58_3 := blk_frozen BK128.out 3
     have hnb59 := NB108_116.out
     have hnc59 := NB116_108.out
     have hcz60_0 : w43.cell? ⟨gb108, 0, none⟩ = some (.int .i64 t101) := (blk_cell BK108.out 0).trans rfl
     have hcz60_1 : w43.cell? ⟨gb108, 1, none⟩ = some (.int .i64 t102) := (blk_cell BK108.out 1).trans rfl
     have hcz60_2 : w43.cell? ⟨gb108, 2, none⟩ = some (.int .i64 t103) := (blk_cell BK108.out 2).trans rfl
     have hcz60_3 : w43.cell? ⟨gb108, 3, none⟩ = some (.slice Ao9 t104.length co9) := (blk_cell BK108.out 3).trans rfl
     have hfz60_0 := blk_frozen BK108.out 0
     have hfz60_1 := blk_frozen BK108.out 1
     have hfz60_2 := blk_frozen BK108.out 2
     have hfz60_3 := blk_frozen BK108.out 3
     go_wp2_with (first | ((with_reducible refine gate_callee (f := 7) rfl ?_); refine goesL_ (some 51) rfl rfl Tryz.func7 (by kernel_rfl) rfl #[.agg #[.int .i64 t121, .int .i64 t122, .int .i64 t123, .slice Ao47 t124.length co47], .agg #[.int .i64 t101, .int .i64 t102, .int .i64 t103, .slice Ao9 t104.length co9]] rfl Z3.z4 ?_; (with_reducible refine (laws_eqMatrix.calls kj4 t121 t122 t123 _ _ t124 t101 t102 t103 _ _ t104 false _ ?side1 ?side2 ?side3 ?side4 A48.out).mono ?_); (case side1 => exact Z3.z21); (case side2 => exact (Kd.R_reads' HO126.out).2.1); (case side3 => exact Z3.z22); (case side4 => exact (Kd.R_reads' HO_109003.out).2.1); rintro e w61 ⟨rfl, hb⟩; refine ⟨_, rfl, ?_⟩; have n0_ := Z3.k (Kd.R_below Z3.z5 hb); have n1_ := Z3.k (Kd.R_below Z3.z17 hb); have n2_ := Z3.k (Kd.R_below Z3.z6 hb); have n3_ := Z3.k (Z3.bb BK108 Z3.z28 hb); have n4_ := Z3.k (Z3.bb BK116 Z3.z27 hb); have n5_ := Z3.k (blk_below (g := gb128) (o := .cells #[.int .i64 t121, .int .i64 t122, .int .i64 t123, .slice Ao47 t124.length co47] 24 (0, 0)) Z3.z10 hb); have n6_ := Z3.k (below_step Z3.z1 hb); clear HO_109003 HO_117003 HO126 BK108 BK116 BK128 HB; have HO_109003 := n0_; have HO_117003 := n1_; have HO126 := n2_; have BK108 := n3_; have BK116 := n4_; have BK128 := n5_; have HB := n6_; clear n0_ n1_ n2_ n3_ n4_ n5_ n6_; (try clear hb); (try clear hb2); (try clear hk); (try clear hi)))
     go_meet
     case rel => exact ⟨_, (true), (by first | rfl | (simp; done) | (simp [*]; done)), H', ⟨(by have := HJ4.out; first | omega | exact Nat.le_refl _)⟩, ⟨Z3.z13⟩, ⟨Z3.z12⟩, ⟨Z3.z30⟩, ⟨Z3.z2⟩, ⟨Z3.z3⟩, ⟨Z3.z20⟩, ⟨Z3.z1⟩⟩
    case rest =>
     clear HC36
     try clear c1
     try clear c2
     try clear c2b0
     try clear c2b1
     try clear p2
     try clear c3
     try clear c4
     try clear c5
     try clear c6
     try clear c7
     try clear c8
     try clear c9
     try clear c12
     try clear c16
     try clear c17
     try clear c21
     try clear c25
     try clear c28
     try clear c28b0
     try clear c29
     try clear c34
     try clear c34b0
     try clear c34b1
     try clear c37
     try clear c44
     try clear c45
     try clear c49
     try clear c50
     try clear c51
     try clear c53
     try clear c56
     try clear c57
     try clear c59
     try clear hcz13_0
     try clear hcz13_1
     try clear hcz13_2
     try clear hcz13_3
     try clear hcz18_0
     try clear hcz18_1
     try clear hcz18_2
     try clear hcz18_3
     try clear hcz19_0
     try clear hcz19_1
     try clear hcz19_2
     try clear hcz19_3
     try clear hcz22_0
     try clear hcz22_1
     try clear hcz22_2
     try clear hcz22_3
     try clear hcz23_0
     try clear hcz23_1
     try clear hcz23_2
     try clear hcz23_3
     try clear hcz30_0
     try clear hcz30_1
     try clear hcz30_2
     try clear hcz30_3
     try clear hcz32_0
     try clear hcz32_1
     try clear hcz32_2
     try clear hcz32_3
     try clear hcz38_0
     try clear hcz38_1
     try clear hcz38_2
     try clear hcz38_3
     try clear hcz40_0
     try clear hcz40_1
     try clear hcz40_2
     try clear hcz40_3
     try clear hcz46_0
     try clear hcz46_1
     try clear hcz46_2
     try clear hcz46_3
     try clear hcz52_0
     try clear hcz52_1
     try clear hcz52_2
     try clear hcz52_3
     try clear hcz54_0
     try clear hcz54_1
     try clear hcz54_2
     try clear hcz54_3
     try clear hcz58_0
     try clear hcz58_1
     try clear hcz58_2
     try clear hcz58_3
     try clear hcz60_0
     try clear hcz60_1
     try clear hcz60_2
     try clear hcz60_3
     try clear hcz8_0
     try clear hcz8_1
     try clear hcz8_2
     try clear hcz8_3
     try clear hfz13_0
     try clear hfz13_1
     try clear hfz13_2
     try clear hfz13_3
     try clear hfz18_0
     try clear hfz18_1
     try clear hfz18_2
     try clear hfz18_3
     try clear hfz19_0
     try clear hfz19_1
     try clear hfz19_2
     try clear hfz19_3
     try clear hfz22_0
     try clear hfz22_1
     try clear hfz22_2
     try clear hfz22_3
     try clear hfz23_0
     try clear hfz23_1
     try clear hfz23_2
     try clear hfz23_3
     try clear hfz30_0
     try clear hfz30_1
     try clear hfz30_2
     try clear hfz30_3
     try clear hfz32_0
     try clear hfz32_1
     try clear hfz32_2
     try clear hfz32_3
     try clear hfz38_0
     try clear hfz38_1
     try clear hfz38_2
     try clear hfz38_3
     try clear hfz40_0
     try clear hfz40_1
     try clear hfz40_2
     try clear hfz40_3
     try clear hfz46_0
     try clear hfz46_1
     try clear hfz46_2
     try clear hfz46_3
     try clear hfz52_0
     try clear hfz52_1
     try clear hfz52_2
     try clear hfz52_3
     try clear hfz54_0
     try clear hfz54_1
     try clear hfz54_2
     try clear hfz54_3
     try clear hfz58_0
     try clear hfz58_1
     try clear hfz58_2
     try clear hfz58_3
     try clear hfz60_0
     try clear hfz60_1
     try clear hfz60_2
     try clear hfz60_3
     try clear hfz8_0
     try clear hfz8_1
     try clear hfz8_2
     try clear hfz8_3
     try clear p2
     obtain ⟨kq, x57_35, rfl, HA, HJ35, HO_109003, HO_117003, HO_129003, BK108, BK116, BK128, HB⟩ := hcut
     have hl117003_35 := (Kd.R_reads' HO_117003.out).1
     rw [hl117003_35] at HO_117003
     (try simp only [hl117003_35])
     (try simp only [hl117003_35] at BK108)
     (try simp only [hl117003_35] at BK116)
     (try simp only [hl117003_35] at BK128)
     (try simp only [hl117003_35] at HO_109003)
     (try simp only [hl117003_35] at HO_129003)
     cases kq with
     | zero => exact absurd HA.out (by simp [laws_FnExactReadMatrix.j1])
     | succ kj35 =>
      have H := HA.out
      clear HA
      simp only [laws_FnExactReadMatrix.j1] at H
      by_cases c62 : x57_35 = true
      ·subst c62
       have H1 : (some false) = some r := by rw [if_pos rfl] at H; exact H
       clear H
       have H := H1
       clear H1
       obtain rfl := Option.some.inj H
       go_wp2
       go_ret
       exact ⟨Z3.z16, Z3.z1⟩
      replace c62 := Bool.eq_false_iff.mpr c62
      subst c62
      have H1 : ((laws_heldMatrix.f kj35 t109 t110 t111 t119 1).bind fun t130 => (if t130 < 0 then (some false) else (if t130 = t118 then (some true) else (some false)))) = some r := by rw [if_neg (show ¬ (false = true) by decide)] at H; exact H
      clear H
      have H := H1
      clear H1
      replace H := Option.bind_eq_some_iff.mp H
      obtain ⟨t130, A630, H⟩ := H
      replace H : (if t130 < 0 then (some false) else (if t130 = t118 then (some true) else (some false))) = some r := H
      have A63 := Z3.k A630
      clear A630
      by_cases c64 : t130 < 0
      ·rw [if_pos c64] at H
       have c64b0 : decide (t130 < 0) = true := decide_eq_true c64
       clear c64
       obtain rfl := Option.some.inj H
       have hnb65 := NB116_108.out
       have hnc65 := NB108_116.out
       have hnb66 := NB116_128.out
       have hnc66 := NB128_116.out
       have hcz67_0 : wc.cell? ⟨gb116, 0, none⟩ = some (.int .i64 t109) := (blk_cell BK116.out 0).trans rfl
       have hcz67_1 : wc.cell? ⟨gb116, 1, none⟩ = some (.int .i64 t110) := (blk_cell BK116.out 1).trans rfl
       have hcz67_2 : wc.cell? ⟨gb116, 2, none⟩ = some (.int .i64 t111) := (blk_cell BK116.out 2).trans rfl
       have hcz67_3 : wc.cell? ⟨gb116, 3, none⟩ = some (.slice Ao14 t119.length co14) := (blk_cell BK116.out 3).trans rfl
       have hfz67_0 := blk_frozen BK116.out 0
       have hfz67_1 := blk_frozen BK116.out 1
       have hfz67_2 := blk_frozen BK116.out 2
       have hfz67_3 := blk_frozen BK116.out 3
       go_wp2_with (first | ((with_reducible refine gate_callee (f := 9) rfl ?_); refine goesL_ (some 60) rfl rfl Tryz.func9 (by kernel_rfl) rfl #[.agg #[.int .i64 t109, .int .i64 t110, .int .i64 t111, .slice Ao14 t119.length co14], .int .i64 1] rfl Z3.z4 ?_; (with_reducible refine (laws_heldMatrix.calls kj35 t109 t110 t111 _ _ t119 1 t130 _ ?side1 ?side2 A63.out).mono ?_); (case side1 => exact Z3.z14); (case side2 => exact (Kd.R_reads' HO_117003.out).2.1); rintro e w68 ⟨rfl, hb⟩; refine ⟨_, rfl, ?_⟩; have n0_ := Z3.k (Kd.R_below Z3.z13 hb); have n1_ := Z3.k (Kd.R_below Z3.z12 hb); have n2_ := Z3.k (Kd.R_below Z3.z24 hb); have n3_ := Z3.k (Z3.bb BK108 Z3.z2 hb); have n4_ := Z3.k (Z3.bb BK116 Z3.z3 hb); have n5_ := Z3.k (Z3.bb BK128 Z3.z20 hb); have n6_ := Z3.k (below_step Z3.z1 hb); clear HO_109003 HO_117003 HO_129003 BK108 BK116 BK128 HB; have HO_109003 := n0_; have HO_117003 := n1_; have HO_129003 := n2_; have BK108 := n3_; have BK116 := n4_; have BK128 := n5_; have HB := n6_; clear n0_ n1_ n2_ n3_ n4_ n5_ n6_; (try clear hb); (try clear hb2); (try clear hk); (try clear hi)))
       go_ret
       exact ⟨Z3.z16, Z3.z1⟩
      rw [if_neg c64] at H
      have c64b0 : decide (t130 < 0) = false := decide_eq_false c64
      clear c64
      by_cases c69 : t130 = t118
      ·rw [if_pos c69] at H
       have c69b0 : (t130 == t118) = true := beq_iff_eq.mpr c69
       have c69b1 : (t130 != t118) = false := bne_eq_false_iff_eq.mpr c69
       clear c69
       obtain rfl := Option.some.inj H
       have hnb70 := NB116_108.out
       have hnc70 := NB108_116.out
       have hnb71 := NB116_128.out
       have hnc71 := NB128_116.out
       have hcz72_0 : wc.cell? ⟨gb116, 0, none⟩ = some (.int .i64 t109) := (blk_cell BK116.out 0).trans rfl
       have hcz72_1 : wc.cell? ⟨gb116, 1, none⟩ = some (.int .i64 t110) := (blk_cell BK116.out 1).trans rfl
       have hcz72_2 : wc.cell? ⟨gb116, 2, none⟩ = some (.int .i64 t111) := (blk_cell BK116.out 2).trans rfl
       have hcz72_3 : wc.cell? ⟨gb116, 3, none⟩ = some (.slice Ao14 t119.length co14) := (blk_cell BK116.out 3).trans rfl
       have hfz72_0 := blk_frozen BK116.out 0
       have hfz72_1 := blk_frozen BK116.out 1
       have hfz72_2 := blk_frozen BK116.out 2
       have hfz72_3 := blk_frozen BK116.out 3
       go_wp2_with (first | ((with_reducible refine gate_callee (f := 9) rfl ?_); refine goesL_ (some 60) rfl rfl Tryz.func9 (by kernel_rfl) rfl #[.agg #[.int .i64 t109, .int .i64 t110, .int .i64 t111, .slice Ao14 t119.length co14], .int .i64 1] rfl Z3.z4 ?_; (with_reducible refine (laws_heldMatrix.calls kj35 t109 t110 t111 _ _ t119 1 t130 _ ?side1 ?side2 A63.out).mono ?_); (case side1 => exact Z3.z14); (case side2 => exact (Kd.R_reads' HO_117003.out).2.1); rintro e w73 ⟨rfl, hb⟩; refine ⟨_, rfl, ?_⟩; have n0_ := Z3.k (Kd.R_below Z3.z13 hb); have n1_ := Z3.k (Kd.R_below Z3.z12 hb); have n2_ := Z3.k (Kd.R_below Z3.z24 hb); have n3_ := Z3.k (Z3.bb BK108 Z3.z2 hb); have n4_ := Z3.k (Z3.bb BK116 Z3.z3 hb); have n5_ := Z3.k (Z3.bb BK128 Z3.z20 hb); have n6_ := Z3.k (below_step Z3.z1 hb); clear HO_109003 HO_117003 HO_129003 BK108 BK116 BK128 HB; have HO_109003 := n0_; have HO_117003 := n1_; have HO_129003 := n2_; have BK108 := n3_; have BK116 := n4_; have BK128 := n5_; have HB := n6_; clear n0_ n1_ n2_ n3_ n4_ n5_ n6_; (try clear hb); (try clear hb2); (try clear hk); (try clear hi)))
       go_ret
       exact ⟨Z3.z16, Z3.z1⟩
      rw [if_neg c69] at H
      have c69b0 : (t130 == t118) = false := beq_eq_false_iff_ne.mpr c69
      have c69b1 : (t130 != t118) = true := bne_iff_ne.mpr c69
      obtain rfl := Option.some.inj H
      have hnb74 := NB116_108.out
      have hnc74 := NB108_116.out
      have hnb75 := NB116_128.out
      have hnc75 := NB128_116.out
      have hcz76_0 : wc.cell? ⟨gb116, 0, none⟩ = some (.int .i64 t109) := (blk_cell BK116.out 0).trans rfl
      have hcz76_1 : wc.cell? ⟨gb116, 1, none⟩ = some (.int .i64 t110) := (blk_cell BK116.out 1).trans rfl
      have hcz76_2 : wc.cell? ⟨gb116, 2, none⟩ = some (.int .i64 t111) := (blk_cell BK116.out 2).trans rfl
      have hcz76_3 : wc.cell? ⟨gb116, 3, none⟩ = some (.slice Ao14 t119.length co14) := (blk_cell BK116.out 3).trans rfl
      have hfz76_0 := blk_frozen BK116.out 0
      have hfz76_1 := blk_frozen BK116.out 1
      have hfz76_2 := blk_frozen BK116.out 2
      have hfz76_3 := blk_frozen BK116.out 3
      go_wp2_with (first | ((with_reducible refine gate_callee (f := 9) rfl ?_); refine goesL_ (some 60) rfl rfl Tryz.func9 (by kernel_rfl) rfl #[.agg #[.int .i64 t109, .int .i64 t110, .int .i64 t111, .slice Ao14 t119.length co14], .int .i64 1] rfl Z3.z4 ?_; (with_reducible refine (laws_heldMatrix.calls kj35 t109 t110 t111 _ _ t119 1 t130 _ ?side1 ?side2 A63.out).mono ?_); (case side1 => exact Z3.z14); (case side2 => exact (Kd.R_reads' HO_117003.out).2.1); rintro e w77 ⟨rfl, hb⟩; refine ⟨_, rfl, ?_⟩; have n0_ := Z3.k (Kd.R_below Z3.z13 hb); have n1_ := Z3.k (Kd.R_below Z3.z12 hb); have n2_ := Z3.k (Kd.R_below Z3.z24 hb); have n3_ := Z3.k (Z3.bb BK108 Z3.z2 hb); have n4_ := Z3.k (Z3.bb BK116 Z3.z3 hb); have n5_ := Z3.k (Z3.bb BK128 Z3.z20 hb); have n6_ := Z3.k (below_step Z3.z1 hb); clear HO_109003 HO_117003 HO_129003 BK108 BK116 BK128 HB; have HO_109003 := n0_; have HO_117003 := n1_; have HO_129003 := n2_; have BK108 := n3_; have BK116 := n4_; have BK128 := n5_; have HB := n6_; clear n0_ n1_ n2_ n3_ n4_ n5_ n6_; (try clear hb); (try clear hb2); (try clear hk); (try clear hi)))
      go_ret
      exact ⟨Z3.z16, Z3.z1⟩
   rw [if_neg c34] at H
   have c34b0 : (t120 == t118) = false := beq_eq_false_iff_ne.mpr c34
   have c34b1 : (t120 != t118) = true := bne_iff_ne.mpr c34
   obtain rfl := Option.some.inj H
   have hnb78 := NB116_108.out
   have hnc78 := NB108_116.out
   have hcz79_0 : wc.cell? ⟨gb116, 0, none⟩ = some (.int .i64 t109) := (blk_cell BK116.out 0).trans rfl
   have hcz79_1 : wc.cell? ⟨gb116, 1, none⟩ = some (.int .i64 t110) := (blk_cell BK116.out 1).trans rfl
   have hcz79_2 : wc.cell? ⟨gb116, 2, none⟩ = some (.int .i64 t111) := (blk_cell BK116.out 2).trans rfl
   have hcz79_3 : wc.cell? ⟨gb116, 3, none⟩ = some (.slice Ao14 t112.length co14) := (blk_cell BK116.out 3).trans rfl
   have hfz79_0 := blk_frozen BK116.out 0
   have hfz79_1 := blk_frozen BK116.out 1
   have hfz79_2 := blk_frozen BK116.out 2
   have hfz79_3 := blk_frozen BK116.out 3
   go_wp2_with (first | ((with_reducible refine gate_callee (f := 8) rfl ?_); refine goesL_ (some 35) rfl rfl Tryz.func8 (by kernel_rfl) rfl #[.agg #[.int .i64 t109, .int .i64 t110, .int .i64 t111, .slice Ao14 t112.length co14], .int .i64 1] rfl Z3.z4 ?_; (with_reducible refine (laws_markMatrix.calls kj4 t109 t110 t111 (fun k_ => some k_ = (.slice Ao14 t112.length co14 : Value).ownBlock) (.slice Ao14 t112.length co14) t112 1 t118 t119 w _ ?side1 ?side2 A26.out).mono ?_); (case side1 => exact Z3.z0); (case side2 => exact Kd.R_tight rfl HO_117003.out); rintro e w80 ⟨rfl, hy0, hb, hkp⟩; refine ⟨_, rfl, ?_⟩; have n0_ := Z3.k (Kd.R_mono (ok' := fun k_ => some k_ ≠ (.slice Ao14 t112.length co14 : Value).ownBlock) (Kd.R_keptB (HO_109003.out) hkp (fun k_ hk_ hs_ => (hk_) hs_)) (fun k_ hk_ => hk_.1)); have n1_ := Z3.k (Kd.R_reok rfl hy0 (fun k_ e_ => HO_117003.out.1 k_ e_)); have n2_ := Z3.k (blk_kept Z3.z2 hkp (fun hs_ => (fun e_ => (Kd.R_ne HO_117003.out BK108.out (by decide)) e_) hs_)); have n3_ := Z3.k (blk_kept Z3.z3 hkp (fun hs_ => (fun e_ => (Kd.R_ne HO_117003.out BK116.out (by decide)) e_) hs_)); have n4_ := Z3.k (hb); clear HO_109003 HO_117003 BK108 BK116 HB; have HO_109003 := n0_; have HO_117003 := n1_; have BK108 := n2_; have BK116 := n3_; have HB := n4_; clear n0_ n1_ n2_ n3_ n4_; (try clear hb); (try clear hkp); (try clear hy0); have hcz81_0 : w80.cell? ⟨gb116, 0, none⟩ = some (.int .i64 t109) := (blk_cell BK116.out 0).trans rfl; have hcz81_1 : w80.cell? ⟨gb116, 1, none⟩ = some (.int .i64 t110) := (blk_cell BK116.out 1).trans rfl; have hcz81_2 : w80.cell? ⟨gb116, 2, none⟩ = some (.int .i64 t111) := (blk_cell BK116.out 2).trans rfl; have hcz81_3 : w80.cell? ⟨gb116, 3, none⟩ = some (.slice Ao14 t112.length co14) := (blk_cell BK116.out 3).trans rfl; have hfz81_0 := blk_frozen BK116.out 0; have hfz81_1 := blk_frozen BK116.out 1; have hfz81_2 := blk_frozen BK116.out 2; have hfz81_3 := blk_frozen BK116.out 3) | ((with_reducible refine gate_callee (f := 9) rfl ?_); refine goesL_ (some 38) rfl rfl Tryz.func9 (by kernel_rfl) rfl #[.agg #[.int .i64 t109, .int .i64 t110, .int .i64 t111, .slice Ao14 t119.length co14], .int .i64 1] rfl Z3.z19 ?_; (with_reducible refine (laws_heldMatrix.calls kj4 t109 t110 t111 _ _ t119 1 t120 _ ?side1 ?side2 A27.out).mono ?_); (case side1 => exact Z3.z14); (case side2 => exact Z3.z23); rintro e w82 ⟨rfl, hb⟩; refine ⟨_, rfl, ?_⟩; have n0_ := Z3.k (Kd.R_below Z3.z13 hb); have n1_ := Z3.k (Kd.R_below Z3.z12 hb); have n2_ := Z3.k (Z3.bb BK108 Z3.z2 hb); have n3_ := Z3.k (Z3.bb BK116 Z3.z3 hb); have n4_ := Z3.k (below_step Z3.z0 hb); clear HO_109003 HO_117003 BK108 BK116 HB; have HO_109003 := n0_; have HO_117003 := n1_; have BK108 := n2_; have BK116 := n3_; have HB := n4_; clear n0_ n1_ n2_ n3_ n4_; (try clear hb); (try clear hb2); (try clear hk); (try clear hi)))
   go_ret
   exact ⟨Z3.z16, Z3.z0⟩
def laws_FnExactReadMatrix.Pure : Prop := ∀ (a0 : ByteArray), a0.size ≤ 140737488351232 → ∃ k, laws_FnExactReadMatrix.f k a0 = some true
theorem laws_FnExactReadMatrix.walk (P : laws_FnExactReadMatrix.Pure) (a0 : ByteArray) (w : World) (w0 : a0.size ≤ 140737488351232) (hlP_ : LaidP w) (hlE_ : LaidE w) (hlM_ : LaidM w) :
    Calls Tryz.prog 3 #[.string a0] w fun e w' => e = .returned (.bool true) ∧ Below w.heap.size w w' := by
  obtain ⟨k, h⟩ := P a0 w0
  refine (laws_FnExactReadMatrix.calls k a0 true w hlP_ hlE_ hlM_ h).mono ?_
  rintro e w' ⟨rfl, hd⟩
  exact ⟨rfl, hd⟩
end Go.Proofs.YtkndhjchlnepmaaGreatDoor.F
end
