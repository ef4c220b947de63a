-- Texts of this claim, merged by pack.py (a program of this session's).
import Derived.Test.YtoibkfdmcajieaaQFnExactColumnSpace0
import Derived.Test.YtoibkfdmcajieaaQFnExactColumnSpace1
import Derived.Test.YtoibkfdmcajieaaQFnExactColumnSpace4
import Derived.Test.YtoibkfdmcajieaaQFnExactColumnSpace7

section
namespace Go.Proofs.Ytoibkfdmcajieaa.F
open Go.RowKit Go.Proofs.YtoibkfdmcajieaaW.PrintWords Go.Proofs.YtoibkfdmcajieaaW.PrintLast Go.Proofs.YtoibkfdmcajieaaW.PrintMore
attribute [local go_sem] max2_int min2_int max_two min_two max_three min_three max_four min_four   -- for this text's walks alone
set_option linter.unusedVariables false
set_option linter.unusedSimpArgs false

/-! ### laws_eqMatrix: function 24 -/
def laws_eqMatrix.f (k : Nat) (a0_0 : Int) (a0_1 : Int) (a0_2 : Int) (l0_3 : List Int) (a1_0 : Int) (a1_1 : Int) (a1_2 : Int) (l1_3 : List Int) : Option (Bool) := if a0_0 = a1_0 then (if a0_1 = a1_1 then (if a0_2 = a1_2 then ((laws_eqInt64S.f k l0_3 l1_3).bind fun t103 => (if t103 = true then (some true) else (some false))) else (some false)) else (some false)) else (some false)
theorem laws_eqMatrix.mono : ∀ a0 a1 a2 a3 a4 a5 a6 a7 k, LeO (laws_eqMatrix.f k a0 a1 a2 a3 a4 a5 a6 a7) (laws_eqMatrix.f (k + 1) a0 a1 a2 a3 a4 a5 a6 a7) := by
  intro a0 a1 a2 a3 a4 a5 a6 a7 k
  unfold laws_eqMatrix.f
  repeat' first
      | (with_reducible exact laws_eqInt64S.mono _ _ _)
      | (with_reducible exact LeO.refl _)
      | (with_reducible exact LeO.none _)
      | (with_reducible refine LeO.ite ?_ ?_)
      | (with_reducible refine LeO.bind ?_ (fun _ => ?_))
      | exact laws_eqInt64S.mono _ _ _
      | exact LeO.none _
      | refine LeO.ite ?_ ?_
      | refine LeO.bind ?_ (fun _ => ?_)
theorem Z24.bb {w0 w w1 : World} {g : Nat} {o : Obj} (_B : Aside0 (w0.heap[g]? = some o)) (h : w.heap[g]? = some o) (hb : Below w.heap.size w w1) : w1.heap[g]? = some o := blk_below h hb
theorem Z24.bl {w0 w : World} {g : Nat} {o : Obj} (_B : Aside0 (w0.heap[g]? = some o)) (h : w.heap[g]? = some o) : g < w.heap.size := blk_lt h
theorem Z24.k {p : Prop} (h : p) : Aside0 p := ⟨h⟩
theorem Z24.z11 {P : Prop} (h : P := by (try simp only [List.map_toArray, List.map_cons, List.map_nil]); first | done | rfl | (simp only [List.length_drop, List.length_take]; rfl)) : P := h
theorem Z24.z10 {P : Prop} (h : P := by rw [hg]; exact Nat.ne_of_gt (Z24.bl BK101 Z24.z2)) : P := h
theorem Z24.z9 {P : Prop} (h : P := by rw [hg]; exact Nat.ne_of_lt (Z24.bl BK101 Z24.z2)) : P := h
theorem Z24.z8 {P : Prop} (h : P := by repeat (first | exact (Kd.C_below HR0_3.out HB.out) | (with_reducible refine Kd.C_alloc ?_ _) | (with_reducible refine Kd.C_drewN ?_ _) | (with_reducible refine Kd.C_drew ?_))) : P := h
theorem Z24.z7 {P : Prop} (h : P := by repeat (first | exact (Kd.C_below HR1_3.out HB.out) | (with_reducible refine Kd.C_alloc ?_ _) | (with_reducible refine Kd.C_drewN ?_ _) | (with_reducible refine Kd.C_drew ?_))) : P := h
theorem Z24.z6 {P : Prop} (h : P := by rw [hg]; exact (below_size Z24.z0)) : P := h
theorem Z24.z5 {P : Prop} (h : P := by rw [hg]; exact (below_size Z24.z1)) : P := h
theorem Z24.z4 {P : Prop} (h : P := by first | rfl | (simp [errW_none, errW_some] <;> rfl) | (simp [*, errW_none, errW_some] <;> rfl)) : P := h
theorem Z24.z3 {P : Prop} (h : P := by repeat (first | (with_reducible first | exact HB.out | apply below_alloc | apply pw_below_drewN | apply below_drew1 | refine below_set ?_ GE101.out | refine below_set ?_ GE102.out) | exact HB.out)) : P := h
theorem Z24.z2 {P : Prop} (h : P := by (with_reducible repeat (first | refine blk_drewN ?_ _ | refine blk_drew ?_ | refine blk_alloc ?_ _)); exact BK101.out) : P := h
theorem Z24.z1 {P : Prop} (h : P := by repeat (first | (with_reducible first | exact HB.out | apply below_alloc | apply pw_below_drewN | apply below_drew1) | exact HB.out)) : P := h
theorem Z24.z0 {P : Prop} (h : P := by repeat (first | (with_reducible first | exact HB.out | apply below_alloc | apply pw_below_drewN | apply below_drew1 | refine below_set ?_ GE101.out) | exact HB.out)) : P := h
set_option maxHeartbeats 8000000 in
set_option maxRecDepth 100000 in
theorem laws_eqMatrix.calls (k : Nat) (a0_0 : Int) (a0_1 : Int) (a0_2 : Int) (A0_3 : Option Addr) (c0_3 : Nat) (l0_3 : List Int) (a1_0 : Int) (a1_1 : Int) (a1_2 : Int) (A1_3 : Option Addr) (c1_3 : Nat) (l1_3 : List Int) (r : Bool) (w : World) (hr0_3 : Kd.C (Kd.int .i64) w A0_3 l0_3.length l0_3) (hc0_3 : l0_3.length ≤ c0_3) (hr1_3 : Kd.C (Kd.int .i64) w A1_3 l1_3.length l1_3) (hc1_3 : l1_3.length ≤ c1_3) (h : laws_eqMatrix.f k a0_0 a0_1 a0_2 l0_3 a1_0 a1_1 a1_2 l1_3 = some r) :
  Calls Try.prog 24 #[.agg #[.int .i64 a0_0, .int .i64 a0_1, .int .i64 a0_2, .slice A0_3 l0_3.length c0_3], .agg #[.int .i64 a1_0, .int .i64 a1_1, .int .i64 a1_2, .slice A1_3 l1_3.length c1_3]] w fun e w' => e = .returned (.bool r) ∧ Below w.heap.size w w' := by
 have hu43 := Try.underlying43
 have HR0_3 := Z24.k hr0_3
 have HC0_3 := Z24.k hc0_3
 clear hr0_3 hc0_3
 have HR1_3 := Z24.k hr1_3
 have HC1_3 := Z24.k hc1_3
 clear hr1_3 hc1_3
 have HB := Z24.k (Below.refl w.heap.size w)
 have H : (if a0_0 = a1_0 then (if a0_1 = a1_1 then (if a0_2 = a1_2 then ((laws_eqInt64S.f k l0_3 l1_3).bind fun t103 => (if t103 = true then (some true) else (some false))) else (some false)) else (some false)) else (some false)) = some r := h
 clear h
 by_cases c3 : a0_0 = a1_0
 ·rw [if_pos c3] at H
  have c3b0 : (a0_0 == a1_0) = true := beq_iff_eq.mpr c3
  have c3b1 : (a0_0 != a1_0) = false := bne_eq_false_iff_eq.mpr c3
  clear c3
  by_cases c4 : a0_1 = a1_1
  ·rw [if_pos c4] at H
   have c4b0 : (a0_1 == a1_1) = true := beq_iff_eq.mpr c4
   have c4b1 : (a0_1 != a1_1) = false := bne_eq_false_iff_eq.mpr c4
   clear c4
   by_cases c5 : a0_2 = a1_2
   ·rw [if_pos c5] at H
    have c5b0 : (a0_2 == a1_2) = true := beq_iff_eq.mpr c5
    have c5b1 : (a0_2 != a1_2) = false := bne_eq_false_iff_eq.mpr c5
    clear c5
    replace H := Option.bind_eq_some_iff.mp H
    obtain ⟨t103, A60, H⟩ := H
    replace H : (if t103 = true then (some true) else (some false)) = some r := H
    have A6 := Z24.k A60
    clear A60
    by_cases c7 : t103 = true
    ·subst c7
     have H1 : (some true) = some r := by rw [if_pos rfl] at H; exact H
     clear H
     have H := H1
     clear H1
     obtain rfl := Option.some.inj H
     go_enter Try.func24, Try.ntmps24
     go_wp2_with (first | ((with_reducible refine gate_dst (N := 2) rfl ?_); refine box_event ?hg (N := 2) ?hd (cs := #[.int .i64 a0_0, .int .i64 a0_1, .int .i64 a0_2, .slice A0_3 l0_3.length c0_3]) (t := 43) ?hr ?_; (case hd => rfl); (case hg => rfl); (case hr => first | (go_simp; done) | (go_simp; rfl)); intro gb101 hg w8 hbox hb; have n0_ := Z24.k (below_step Z24.z1 hb); have n1_ := Z24.k (hbox); have n2_ := Z24.k (show w.heap.size ≤ gb101 from Z24.z5); have n3_ := Z24.k (show w.heap.size ≤ gb101 from Z24.z5); clear HB; have HB := n0_; have BK101 := n1_; have GW101 := n2_; have GE101 := n3_; clear n0_ n1_ n2_ n3_; clear hb hbox hg) | ((with_reducible refine gate_dst (N := 3) rfl ?_); refine box_event ?hg (N := 3) ?hd (cs := #[.int .i64 a1_0, .int .i64 a1_1, .int .i64 a1_2, .slice A1_3 l1_3.length c1_3]) (t := 43) ?hr ?_; (case hd => rfl); (case hg => rfl); (case hr => first | (go_simp; done) | (go_simp; rfl)); intro gb102 hg w9 hbox hb; have n0_ := Z24.k (Z24.bb BK101 Z24.z2 hb); have n1_ := Z24.k (below_step Z24.z0 hb); have n2_ := Z24.k (hbox); have n3_ := Z24.k (show w.heap.size ≤ gb102 from Z24.z6); have n4_ := Z24.k (show w.heap.size ≤ gb102 from Z24.z6); have n5_ := Z24.k (show gb101 ≠ gb102 from Z24.z9); have n6_ := Z24.k (show gb102 ≠ gb101 from Z24.z10); clear BK101 HB; have BK101 := n0_; have HB := n1_; have BK102 := n2_; have GW102 := n3_; have GE102 := n4_; have NB101_102 := n5_; have NB102_101 := n6_; clear n0_ n1_ n2_ n3_ n4_ n5_ n6_; clear hb hbox hg; have hnb10 := NB101_102.out; have hnc10 := NB102_101.out; have hcz11_0 : w9.cell? ⟨gb101, 0, none⟩ = some (.int .i64 a0_0) := (blk_cell BK101.out 0).trans rfl; have hcz11_1 : w9.cell? ⟨gb101, 1, none⟩ = some (.int .i64 a0_1) := (blk_cell BK101.out 1).trans rfl; have hcz11_2 : w9.cell? ⟨gb101, 2, none⟩ = some (.int .i64 a0_2) := (blk_cell BK101.out 2).trans rfl; have hcz11_3 : w9.cell? ⟨gb101, 3, none⟩ = some (.slice A0_3 l0_3.length c0_3) := (blk_cell BK101.out 3).trans rfl; have hfz11_0 := blk_frozen BK101.out 0; have hfz11_1 := blk_frozen BK101.out 1; have hfz11_2 := blk_frozen BK101.out 2; have hfz11_3 := blk_frozen BK101.out 3; have hcz12_0 : w9.cell? ⟨gb102, 0, none⟩ = some (.int .i64 a1_0) := (blk_cell BK102.out 0).trans rfl; have hcz12_1 : w9.cell? ⟨gb102, 1, none⟩ = some (.int .i64 a1_1) := (blk_cell BK102.out 1).trans rfl; have hcz12_2 : w9.cell? ⟨gb102, 2, none⟩ = some (.int .i64 a1_2) := (blk_cell BK102.out 2).trans rfl; have hcz12_3 : w9.cell? ⟨gb102, 3, none⟩ = some (.slice A1_3 l1_3.length c1_3) := (blk_cell BK102.out 3).trans rfl; have hfz12_0 := blk_frozen BK102.out 0; have hfz12_1 := blk_frozen BK102.out 1; have hfz12_2 := blk_frozen BK102.out 2; have hfz12_3 := blk_frozen BK102.out 3) | ((with_reducible refine gate_callee (f := 41) rfl ?_); refine goesL_ (some 24) rfl rfl Try.func41 (by kernel_rfl) rfl #[.slice A0_3 l0_3.length c0_3, .slice A1_3 l1_3.length c1_3] rfl Z24.z11 ?_; (with_reducible refine (laws_eqInt64S.calls k _ _ l0_3 _ _ l1_3 true _ ?side1 ?side2 ?side3 ?side4 A6.out).mono ?_); (case side1 => exact Z24.z8); (case side2 => exact HC0_3.out); (case side3 => exact Z24.z7); (case side4 => exact HC1_3.out); rintro e w' ⟨rfl, ⟨nd, rfl⟩⟩; refine ⟨_, rfl, ?_⟩))
     go_ret
     exact ⟨Z24.z4, Z24.z3⟩
    replace c7 := Bool.eq_false_iff.mpr c7
    subst c7
    have H1 : (some false) = some r := by rw [if_neg (show ¬ (false = true) by decide)] at H; exact H
    clear H
    have H := H1
    clear H1
    obtain rfl := Option.some.inj H
    go_enter Try.func24, Try.ntmps24
    go_wp2_with (first | ((with_reducible refine gate_dst (N := 2) rfl ?_); refine box_event ?hg (N := 2) ?hd (cs := #[.int .i64 a0_0, .int .i64 a0_1, .int .i64 a0_2, .slice A0_3 l0_3.length c0_3]) (t := 43) ?hr ?_; (case hd => rfl); (case hg => rfl); (case hr => first | (go_simp; done) | (go_simp; rfl)); intro gb101 hg w13 hbox hb; have n0_ := Z24.k (below_step Z24.z1 hb); have n1_ := Z24.k (hbox); have n2_ := Z24.k (show w.heap.size ≤ gb101 from Z24.z5); have n3_ := Z24.k (show w.heap.size ≤ gb101 from Z24.z5); clear HB; have HB := n0_; have BK101 := n1_; have GW101 := n2_; have GE101 := n3_; clear n0_ n1_ n2_ n3_; clear hb hbox hg) | ((with_reducible refine gate_dst (N := 3) rfl ?_); refine box_event ?hg (N := 3) ?hd (cs := #[.int .i64 a1_0, .int .i64 a1_1, .int .i64 a1_2, .slice A1_3 l1_3.length c1_3]) (t := 43) ?hr ?_; (case hd => rfl); (case hg => rfl); (case hr => first | (go_simp; done) | (go_simp; rfl)); intro gb102 hg w14 hbox hb; have n0_ := Z24.k (Z24.bb BK101 Z24.z2 hb); have n1_ := Z24.k (below_step Z24.z0 hb); have n2_ := Z24.k (hbox); have n3_ := Z24.k (show w.heap.size ≤ gb102 from Z24.z6); have n4_ := Z24.k (show w.heap.size ≤ gb102 from Z24.z6); have n5_ := Z24.k (show gb101 ≠ gb102 from Z24.z9); have n6_ := Z24.k (show gb102 ≠ gb101 from Z24.z10); clear BK101 HB; have BK101 := n0_; have HB := n1_; have BK102 := n2_; have GW102 := n3_; have GE102 := n4_; have NB101_102 := n5_; have NB102_101 := n6_; clear n0_ n1_ n2_ n3_ n4_ n5_ n6_; clear hb hbox hg; have hnb15 := NB101_102.out; have hnc15 := NB102_101.out; have hcz16_0 : w14.cell? ⟨gb101, 0, none⟩ = some (.int .i64 a0_0) := (blk_cell BK101.out 0).trans rfl; have hcz16_1 : w14.cell? ⟨gb101, 1, none⟩ = some (.int .i64 a0_1) := (blk_cell BK101.out 1).trans rfl; have hcz16_2 : w14.cell? ⟨gb101, 2, none⟩ = some (.int .i64 a0_2) := (blk_cell BK101.out 2).trans rfl; have hcz16_3 : w14.cell? ⟨gb101, 3, none⟩ = some (.slice A0_3 l0_3.length c0_3) := (blk_cell BK101.out 3).trans rfl; have hfz16_0 := blk_frozen BK101.out 0; have hfz16_1 := blk_frozen BK101.out 1; have hfz16_2 := blk_frozen BK101.out 2; have hfz16_3 := blk_frozen BK101.out 3; have hcz17_0 : w14.cell? ⟨gb102, 0, none⟩ = some (.int .i64 a1_0) := (blk_cell BK102.out 0).trans rfl; have hcz17_1 : w14.cell? ⟨gb102, 1, none⟩ = some (.int .i64 a1_1) := (blk_cell BK102.out 1).trans rfl; have hcz17_2 : w14.cell? ⟨gb102, 2, none⟩ = some (.int .i64 a1_2) := (blk_cell BK102.out 2).trans rfl; have hcz17_3 : w14.cell? ⟨gb102, 3, none⟩ = some (.slice A1_3 l1_3.length c1_3) := (blk_cell BK102.out 3).trans rfl; have hfz17_0 := blk_frozen BK102.out 0; have hfz17_1 := blk_frozen BK102.out 1; have hfz17_2 := blk_frozen BK102.out 2; have hfz17_3 := blk_frozen BK102.out 3) | ((with_reducible refine gate_callee (f := 41) rfl ?_); refine goesL_ (some 24) rfl rfl Try.func41 (by kernel_rfl) rfl #[.slice A0_3 l0_3.length c0_3, .slice A1_3 l1_3.length c1_3] rfl Z24.z11 ?_; (with_reducible refine (laws_eqInt64S.calls k _ _ l0_3 _ _ l1_3 false _ ?side1 ?side2 ?side3 ?side4 A6.out).mono ?_); (case side1 => exact Z24.z8); (case side2 => exact HC0_3.out); (case side3 => exact Z24.z7); (case side4 => exact HC1_3.out); rintro e w' ⟨rfl, ⟨nd, rfl⟩⟩; refine ⟨_, rfl, ?_⟩))
    go_ret
    exact ⟨Z24.z4, Z24.z3⟩
   rw [if_neg c5] at H
   have c5b0 : (a0_2 == a1_2) = false := beq_eq_false_iff_ne.mpr c5
   have c5b1 : (a0_2 != a1_2) = true := bne_iff_ne.mpr c5
   obtain rfl := Option.some.inj H
   go_enter Try.func24, Try.ntmps24
   go_wp2_with (first | ((with_reducible refine gate_dst (N := 2) rfl ?_); refine box_event ?hg (N := 2) ?hd (cs := #[.int .i64 a0_0, .int .i64 a0_1, .int .i64 a0_2, .slice A0_3 l0_3.length c0_3]) (t := 43) ?hr ?_; (case hd => rfl); (case hg => rfl); (case hr => first | (go_simp; done) | (go_simp; rfl)); intro gb101 hg w18 hbox hb; have n0_ := Z24.k (below_step Z24.z1 hb); have n1_ := Z24.k (hbox); have n2_ := Z24.k (show w.heap.size ≤ gb101 from Z24.z5); have n3_ := Z24.k (show w.heap.size ≤ gb101 from Z24.z5); clear HB; have HB := n0_; have BK101 := n1_; have GW101 := n2_; have GE101 := n3_; clear n0_ n1_ n2_ n3_; clear hb hbox hg) | ((with_reducible refine gate_dst (N := 3) rfl ?_); refine box_event ?hg (N := 3) ?hd (cs := #[.int .i64 a1_0, .int .i64 a1_1, .int .i64 a1_2, .slice A1_3 l1_3.length c1_3]) (t := 43) ?hr ?_; (case hd => rfl); (case hg => rfl); (case hr => first | (go_simp; done) | (go_simp; rfl)); intro gb102 hg w19 hbox hb; have n0_ := Z24.k (Z24.bb BK101 Z24.z2 hb); have n1_ := Z24.k (below_step Z24.z0 hb); have n2_ := Z24.k (hbox); have n3_ := Z24.k (show w.heap.size ≤ gb102 from Z24.z6); have n4_ := Z24.k (show w.heap.size ≤ gb102 from Z24.z6); have n5_ := Z24.k (show gb101 ≠ gb102 from Z24.z9); have n6_ := Z24.k (show gb102 ≠ gb101 from Z24.z10); clear BK101 HB; have BK101 := n0_; have HB := n1_; have BK102 := n2_; have GW102 := n3_; have GE102 := n4_; have NB101_102 := n5_; have NB102_101 := n6_; clear n0_ n1_ n2_ n3_ n4_ n5_ n6_; clear hb hbox hg; have hnb20 := NB101_102.out; have hnc20 := NB102_101.out; have hcz21_0 : w19.cell? ⟨gb101, 0, none⟩ = some (.int .i64 a0_0) := (blk_cell BK101.out 0).trans rfl; have hcz21_1 : w19.cell? ⟨gb101, 1, none⟩ = some (.int .i64 a0_1) := (blk_cell BK101.out 1).trans rfl; have hcz21_2 : w19.cell? ⟨gb101, 2, none⟩ = some (.int .i64 a0_2) := (blk_cell BK101.out 2).trans rfl; have hcz21_3 : w19.cell? ⟨gb101, 3, none⟩ = some (.slice A0_3 l0_3.length c0_3) := (blk_cell BK101.out 3).trans rfl; have hfz21_0 := blk_frozen BK101.out 0; have hfz21_1 := blk_frozen BK101.out 1; have hfz21_2 := blk_frozen BK101.out 2; have hfz21_3 := blk_frozen BK101.out 3; have hcz22_0 : w19.cell? ⟨gb102, 0, none⟩ = some (.int .i64 a1_0) := (blk_cell BK102.out 0).trans rfl; have hcz22_1 : w19.cell? ⟨gb102, 1, none⟩ = some (.int .i64 a1_1) := (blk_cell BK102.out 1).trans rfl; have hcz22_2 : w19.cell? ⟨gb102, 2, none⟩ = some (.int .i64 a1_2) := (blk_cell BK102.out 2).trans rfl; have hcz22_3 : w19.cell? ⟨gb102, 3, none⟩ = some (.slice A1_3 l1_3.length c1_3) := (blk_cell BK102.out 3).trans rfl; have hfz22_0 := blk_frozen BK102.out 0; have hfz22_1 := blk_frozen BK102.out 1; have hfz22_2 := blk_frozen BK102.out 2; have hfz22_3 := blk_frozen BK102.out 3))
   go_ret
   exact ⟨Z24.z4, Z24.z3⟩
  rw [if_neg c4] at H
  have c4b0 : (a0_1 == a1_1) = false := beq_eq_false_iff_ne.mpr c4
  have c4b1 : (a0_1 != a1_1) = true := bne_iff_ne.mpr c4
  obtain rfl := Option.some.inj H
  go_enter Try.func24, Try.ntmps24
  go_wp2_with (first | ((with_reducible refine gate_dst (N := 2) rfl ?_); refine box_event ?hg (N := 2) ?hd (cs := #[.int .i64 a0_0, .int .i64 a0_1, .int .i64 a0_2, .slice A0_3 l0_3.length c0_3]) (t := 43) ?hr ?_; (case hd => rfl); (case hg => rfl); (case hr => first | (go_simp; done) | (go_simp; rfl)); intro gb101 hg w23 hbox hb; have n0_ := Z24.k (below_step Z24.z1 hb); have n1_ := Z24.k (hbox); have n2_ := Z24.k (show w.heap.size ≤ gb101 from Z24.z5); have n3_ := Z24.k (show w.heap.size ≤ gb101 from Z24.z5); clear HB; have HB := n0_; have BK101 := n1_; have GW101 := n2_; have GE101 := n3_; clear n0_ n1_ n2_ n3_; clear hb hbox hg) | ((with_reducible refine gate_dst (N := 3) rfl ?_); refine box_event ?hg (N := 3) ?hd (cs := #[.int .i64 a1_0, .int .i64 a1_1, .int .i64 a1_2, .slice A1_3 l1_3.length c1_3]) (t := 43) ?hr ?_; (case hd => rfl); (case hg => rfl); (case hr => first | (go_simp; done) | (go_simp; rfl)); intro gb102 hg w24 hbox hb; have n0_ := Z24.k (Z24.bb BK101 Z24.z2 hb); have n1_ := Z24.k (below_step Z24.z0 hb); have n2_ := Z24.k (hbox); have n3_ := Z24.k (show w.heap.size ≤ gb102 from Z24.z6); have n4_ := Z24.k (show w.heap.size ≤ gb102 from Z24.z6); have n5_ := Z24.k (show gb101 ≠ gb102 from Z24.z9); have n6_ := Z24.k (show gb102 ≠ gb101 from Z24.z10); clear BK101 HB; have BK101 := n0_; have HB := n1_; have BK102 := n2_; have GW102 := n3_; have GE102 := n4_; have NB101_102 := n5_; have NB102_101 := n6_; clear n0_ n1_ n2_ n3_ n4_ n5_ n6_; clear hb hbox hg; have hnb25 := NB101_102.out; have hnc25 := NB102_101.out; have hcz26_0 : w24.cell? ⟨gb101, 0, none⟩ = some (.int .i64 a0_0) := (blk_cell BK101.out 0).trans rfl; have hcz26_1 : w24.cell? ⟨gb101, 1, none⟩ = some (.int .i64 a0_1) := (blk_cell BK101.out 1).trans rfl; have hcz26_2 : w24.cell? ⟨gb101, 2, none⟩ = some (.int .i64 a0_2) := (blk_cell BK101.out 2).trans rfl; have hcz26_3 : w24.cell? ⟨gb101, 3, none⟩ = some (.slice A0_3 l0_3.length c0_3) := (blk_cell BK101.out 3).trans rfl; have hfz26_0 := blk_frozen BK101.out 0; have hfz26_1 := blk_frozen BK101.out 1; have hfz26_2 := blk_frozen BK101.out 2; have hfz26_3 := blk_frozen BK101.out 3; have hcz27_0 : w24.cell? ⟨gb102, 0, none⟩ = some (.int .i64 a1_0) := (blk_cell BK102.out 0).trans rfl; have hcz27_1 : w24.cell? ⟨gb102, 1, none⟩ = some (.int .i64 a1_1) := (blk_cell BK102.out 1).trans rfl; have hcz27_2 : w24.cell? ⟨gb102, 2, none⟩ = some (.int .i64 a1_2) := (blk_cell BK102.out 2).trans rfl; have hcz27_3 : w24.cell? ⟨gb102, 3, none⟩ = some (.slice A1_3 l1_3.length c1_3) := (blk_cell BK102.out 3).trans rfl; have hfz27_0 := blk_frozen BK102.out 0; have hfz27_1 := blk_frozen BK102.out 1; have hfz27_2 := blk_frozen BK102.out 2; have hfz27_3 := blk_frozen BK102.out 3))
  go_ret
  exact ⟨Z24.z4, Z24.z3⟩
 rw [if_neg c3] at H
 have c3b0 : (a0_0 == a1_0) = false := beq_eq_false_iff_ne.mpr c3
 have c3b1 : (a0_0 != a1_0) = true := bne_iff_ne.mpr c3
 obtain rfl := Option.some.inj H
 go_enter Try.func24, Try.ntmps24
 go_wp2_with (first | ((with_reducible refine gate_dst (N := 2) rfl ?_); refine box_event ?hg (N := 2) ?hd (cs := #[.int .i64 a0_0, .int .i64 a0_1, .int .i64 a0_2, .slice A0_3 l0_3.length c0_3]) (t := 43) ?hr ?_; (case hd => rfl); (case hg => rfl); (case hr => first | (go_simp; done) | (go_simp; rfl)); intro gb101 hg w28 hbox hb; have n0_ := Z24.k (below_step Z24.z1 hb); have n1_ := Z24.k (hbox); have n2_ := Z24.k (show w.heap.size ≤ gb101 from Z24.z5); have n3_ := Z24.k (show w.heap.size ≤ gb101 from Z24.z5); clear HB; have HB := n0_; have BK101 := n1_; have GW101 := n2_; have GE101 := n3_; clear n0_ n1_ n2_ n3_; clear hb hbox hg) | ((with_reducible refine gate_dst (N := 3) rfl ?_); refine box_event ?hg (N := 3) ?hd (cs := #[.int .i64 a1_0, .int .i64 a1_1, .int .i64 a1_2, .slice A1_3 l1_3.length c1_3]) (t := 43) ?hr ?_; (case hd => rfl); (case hg => rfl); (case hr => first | (go_simp; done) | (go_simp; rfl)); intro gb102 hg w29 hbox hb; have n0_ := Z24.k (Z24.bb BK101 Z24.z2 hb); have n1_ := Z24.k (below_step Z24.z0 hb); have n2_ := Z24.k (hbox); have n3_ := Z24.k (show w.heap.size ≤ gb102 from Z24.z6); have n4_ := Z24.k (show w.heap.size ≤ gb102 from Z24.z6); have n5_ := Z24.k (show gb101 ≠ gb102 from Z24.z9); have n6_ := Z24.k (show gb102 ≠ gb101 from Z24.z10); clear BK101 HB; have BK101 := n0_; have HB := n1_; have BK102 := n2_; have GW102 := n3_; have GE102 := n4_; have NB101_102 := n5_; have NB102_101 := n6_; clear n0_ n1_ n2_ n3_ n4_ n5_ n6_; clear hb hbox hg; have hnb30 := NB101_102.out; have hnc30 := NB102_101.out; have hcz31_0 : w29.cell? ⟨gb101, 0, none⟩ = some (.int .i64 a0_0) := (blk_cell BK101.out 0).trans rfl; have hcz31_1 : w29.cell? ⟨gb101, 1, none⟩ = some (.int .i64 a0_1) := (blk_cell BK101.out 1).trans rfl; have hcz31_2 : w29.cell? ⟨gb101, 2, none⟩ = some (.int .i64 a0_2) := (blk_cell BK101.out 2).trans rfl; have hcz31_3 : w29.cell? ⟨gb101, 3, none⟩ = some (.slice A0_3 l0_3.length c0_3) := (blk_cell BK101.out 3).trans rfl; have hfz31_0 := blk_frozen BK101.out 0; have hfz31_1 := blk_frozen BK101.out 1; have hfz31_2 := blk_frozen BK101.out 2; have hfz31_3 := blk_frozen BK101.out 3; have hcz32_0 : w29.cell? ⟨gb102, 0, none⟩ = some (.int .i64 a1_0) := (blk_cell BK102.out 0).trans rfl; have hcz32_1 : w29.cell? ⟨gb102, 1, none⟩ = some (.int .i64 a1_1) := (blk_cell BK102.out 1).trans rfl; have hcz32_2 : w29.cell? ⟨gb102, 2, none⟩ = some (.int .i64 a1_2) := (blk_cell BK102.out 2).trans rfl; have hcz32_3 : w29.cell? ⟨gb102, 3, none⟩ = some (.slice A1_3 l1_3.length c1_3) := (blk_cell BK102.out 3).trans rfl; have hfz32_0 := blk_frozen BK102.out 0; have hfz32_1 := blk_frozen BK102.out 1; have hfz32_2 := blk_frozen BK102.out 2; have hfz32_3 := blk_frozen BK102.out 3))
 go_ret
 exact ⟨Z24.z4, Z24.z3⟩


/-! ### laws_markMatrix: function 25 -/
def laws_markMatrix.f (k : Nat) (a0_0 : Int) (a0_1 : Int) (a0_2 : Int) (l0_3 : List Int) (a1 : Int) : Option (Int × List Int) := (laws_markInt64S.f k l0_3 a1).bind fun bt102 => (some (bt102.1, bt102.2))
theorem laws_markMatrix.mono : ∀ a0 a1 a2 a3 a4 k, LeO (laws_markMatrix.f k a0 a1 a2 a3 a4) (laws_markMatrix.f (k + 1) a0 a1 a2 a3 a4) := by
  intro a0 a1 a2 a3 a4 k
  unfold laws_markMatrix.f
  repeat' first
      | (with_reducible exact laws_markInt64S.mono _ _ _)
      | (with_reducible exact LeO.refl _)
      | (with_reducible exact LeO.none _)
      | (with_reducible refine LeO.ite ?_ ?_)
      | (with_reducible refine LeO.bind ?_ (fun _ => ?_))
      | exact laws_markInt64S.mono _ _ _
      | exact LeO.none _
      | refine LeO.ite ?_ ?_
      | refine LeO.bind ?_ (fun _ => ?_)
theorem Z25.z2 {P : Prop} (h : P := by repeat (first | (with_reducible first | exact HB.out | apply below_alloc | apply pw_below_drewN | apply below_drew1) | exact HB.out)) : P := h
theorem Z25.z1 {P : Prop} (h : P := by repeat (first | (with_reducible first | exact HB.out | apply below_alloc | apply pw_below_drewN | apply below_drew1 | refine below_set ?_ GE101.out) | exact HB.out)) : P := h
theorem Z25.z0 {P : Prop} (h : P := by repeat (first | (with_reducible first | exact HK.out | apply Kept.alloc | apply Kept.drewN | apply Kept.drew | refine Kept.setCell ?_ (.inr GW101.out) _) | exact HK.out)) : P := h
set_option maxHeartbeats 8000000 in
set_option maxRecDepth 100000 in
theorem laws_markMatrix.calls (k : Nat) (a0_0 : Int) (a0_1 : Int) (a0_2 : Int) (P0_3_ : Nat → Prop) (u9000_ : Value) (l0_3 : List Int) (a1 : Int) (r1 : Int) (r2 : List Int) (w0 w : World) (hB : Below w0.heap.size w0 w) (ho0_3 : Kd.R (Kd.int .i64) 2 w w0.heap.size P0_3_ u9000_ l0_3) (h : laws_markMatrix.f k a0_0 a0_1 a0_2 l0_3 a1 = some (r1, r2)) :
  Calls Try.prog 25 #[.agg #[.int .i64 a0_0, .int .i64 a0_1, .int .i64 a0_2, u9000_], .int .i64 a1] w fun e w' => e = .returned (.int .i64 r1) ∧ Kd.R (Kd.int .i64) 2 w' w0.heap.size (fun k_ => (P0_3_ k_ ∨ w.heap.size ≤ k_)) u9000_ r2 ∧ Below w0.heap.size w0 w' ∧ Kept w w' (fun k_ => P0_3_ k_) := by
 have hu43 := Try.underlying43
 have HO0_3 := Aside0.mk (show Kd.R (Kd.int .i64) 2 w w0.heap.size (fun k_ => (P0_3_ k_ ∨ w.heap.size ≤ k_)) u9000_ l0_3 from Kd.R_mono ho0_3 (fun k_ hk => (.inl hk)))
 have HK := Aside0.mk (Kept.refl w (fun k_ => P0_3_ k_))
 have HW0 := Aside0.mk hB.size
 have HB := Aside0.mk hB
 clear hB
 have H : ((laws_markInt64S.f k l0_3 a1).bind fun bt102 => (some (bt102.1, bt102.2))) = some (r1, r2) := h
 clear h
 replace H := Option.bind_eq_some_iff.mp H
 obtain ⟨⟨t102, t103⟩, A30, H⟩ := H
 replace H : (some (t102, t103)) = some (r1, r2) := H
 have A3 := Aside0.mk A30
 clear A30
 simp only [Option.some.injEq, Prod.mk.injEq] at H
 obtain ⟨rfl, rfl⟩ := H
 obtain ⟨Ao4, co4, eo4⟩ := Kd.R_slice HO0_3.out
 subst eo4
 go_enter Try.func25, Try.ntmps25
 go_wp2_with (first | ((with_reducible refine gate_dst (N := 2) rfl ?_); refine box_event ?hg (N := 2) ?hd (cs := #[.int .i64 a0_0, .int .i64 a0_1, .int .i64 a0_2, .slice Ao4 l0_3.length co4]) (t := 43) ?hr ?_; (case hd => rfl); (case hg => rfl); (case hr => first | (go_simp; done) | (go_simp; rfl)); intro gb101 hg w5 hbox hb; have n0_ := Aside0.mk (Kd.R_below (by (with_reducible repeat (first | apply Kd.R_alloc | apply Kd.R_drewN | apply Kd.R_drew)); exact HO0_3.out) hb); have n1_ := Aside0.mk (Kept.below (S := (fun k_ => P0_3_ k_)) (by repeat (first | (with_reducible first | exact HK.out | apply Kept.alloc | apply Kept.drewN | apply Kept.drew) | exact HK.out)) hb); have n2_ := Aside0.mk (below_step Z25.z2 hb); have n3_ := Aside0.mk (hbox); have n4_ := Aside0.mk (show w.heap.size ≤ gb101 from (by rw [hg]; exact (by first | exact HK.out.1 | exact (show Kept w _ (fun k_ => P0_3_ k_) from by repeat (first | (with_reducible first | exact HK.out | apply Kept.alloc | apply Kept.drewN | apply Kept.drew) | exact HK.out)).1))); have n5_ := Aside0.mk ((by rw [hg]; exact (below_size Z25.z2) : w0.heap.size ≤ gb101)); clear HO0_3 HK HB; have HO0_3 := n0_; have HK := n1_; have HB := n2_; have BK101 := n3_; have GW101 := n4_; have GE101 := n5_; clear n0_ n1_ n2_ n3_ n4_ n5_; clear hb hbox hg; have hcz6_0 : w5.cell? ⟨gb101, 0, none⟩ = some (.int .i64 a0_0) := (blk_cell BK101.out 0).trans rfl; have hcz6_1 : w5.cell? ⟨gb101, 1, none⟩ = some (.int .i64 a0_1) := (blk_cell BK101.out 1).trans rfl; have hcz6_2 : w5.cell? ⟨gb101, 2, none⟩ = some (.int .i64 a0_2) := (blk_cell BK101.out 2).trans rfl; have hcz6_3 : w5.cell? ⟨gb101, 3, none⟩ = some (.slice Ao4 l0_3.length co4) := (blk_cell BK101.out 3).trans rfl; have hfz6_0 := blk_frozen BK101.out 0; have hfz6_1 := blk_frozen BK101.out 1; have hfz6_2 := blk_frozen BK101.out 2; have hfz6_3 := blk_frozen BK101.out 3) | ((with_reducible refine gate_callee (f := 42) rfl ?_); refine goesL_ (some 8) rfl rfl Try.func42 (by kernel_rfl) rfl #[.slice Ao4 l0_3.length co4, .int .i64 a1] rfl (by (try simp only [List.map_toArray, List.map_cons, List.map_nil]); first | done | rfl | (simp only [List.length_drop, List.length_take]; rfl)) ?_; (with_reducible refine (laws_markInt64S.calls k (fun k_ => some k_ = (.slice Ao4 l0_3.length co4 : Value).ownBlock) (.slice Ao4 l0_3.length co4) l0_3 a1 t102 t103 w0 _ ?side1 ?side2 A3.out).mono ?_); (case side1 => exact Z25.z1); (case side2 => exact Kd.R_tight rfl HO0_3.out); rintro e w7 ⟨rfl, hy0, hb, hkp⟩; refine ⟨_, rfl, ?_⟩; have n0_ := Aside0.mk (Kd.R_reok rfl hy0 (fun k_ e_ => HO0_3.out.1 k_ e_)); have n1_ := Aside0.mk (blk_kept (by (with_reducible repeat (first | refine blk_drewN ?_ _ | refine blk_drew ?_ | refine blk_alloc ?_ _)); exact BK101.out) hkp (fun hs_ => (fun e_ => (Kd.R_ne HO0_3.out BK101.out (by decide)) e_) hs_)); have n2_ := Aside0.mk (Kept.then_ (S := (fun k_ => P0_3_ k_)) Z25.z0 hkp (fun k_ hs_ => (fun e_ => (HO0_3.out.1 k_ e_.symm)) hs_)); have n3_ := Aside0.mk (hb); clear HO0_3 BK101 HK HB; have HO0_3 := n0_; have BK101 := n1_; have HK := n2_; have HB := n3_; clear n0_ n1_ n2_ n3_; (try clear hb); (try clear hkp); (try clear hy0)))
 go_ret
 exact ⟨(by first | rfl | (simp [errW_none, errW_some] <;> rfl) | (simp [*, errW_none, errW_some] <;> rfl)), (by (with_reducible repeat (first | apply Kd.R_alloc | apply Kd.R_drewN | apply Kd.R_drew)); exact HO0_3.out), Z25.z1, Z25.z0⟩


/-! ### laws_FnExactColumnSpace: function 5: ours -/
def laws_FnExactColumnSpace.f (k : Nat) (a0_0 : Int) (a0_1 : Int) (a0_2 : Int) (l0_3 : List Int) : Option (Bool) := (laws_szMatrix.f a0_0 a0_1 a0_2 l0_3 1048576).bind fun t => (if t < 0 then (some true) else ((laws_toMatrix.f k a0_0 a0_1 a0_2 l0_3).bind fun X => ((spec_ColumnSpace.f k X.1 X.2.1 X.2.2.1 X.2.2.2).bind fun W => ((impl_ColumnSpace.f k X.1 X.2.1 X.2.2.1 X.2.2.2).bind fun G => ((laws_eqSpace.f k G.1 G.2.1 G.2.2.1 W.1 W.2.1 W.2.2.1).bind fun b => (if b = true then (if G.2.2.2 = W.2.2.2 then ((laws_eqMatrix.f k X.1 X.2.1 X.2.2.1 X.2.2.2 X.1 X.2.1 X.2.2.1 X.2.2.2).bind fun b2 => (if b2 = true then ((laws_markMatrix.f k X.1 X.2.1 X.2.2.1 X.2.2.2 1).bind fun M => (if M.1 < 0 then (none) else ((laws_markSpace.f k G.1 G.2.1 G.2.2.1 1).bind fun M2 => ((laws_heldSpace.f k G.1 G.2.1 M2.2 1).bind fun q => (if q < 0 then (none) else (if q = M2.1 then (some true) else (none))))))) else (none))) else (none)) else (none)))))))
theorem laws_FnExactColumnSpace.mono : ∀ a0 a1 a2 a3 k, LeO (laws_FnExactColumnSpace.f k a0 a1 a2 a3) (laws_FnExactColumnSpace.f (k + 1) a0 a1 a2 a3) := by
  intro a0 a1 a2 a3 k
  unfold laws_FnExactColumnSpace.f
  repeat' first
      | (with_reducible exact laws_toMatrix.mono _ _ _ _ _)
      | (with_reducible exact spec_ColumnSpace.mono _ _ _ _ _)
      | (with_reducible exact impl_ColumnSpace.mono _ _ _ _ _)
      | (with_reducible exact laws_eqSpace.mono _ _ _ _ _ _ _)
      | (with_reducible exact laws_eqMatrix.mono _ _ _ _ _ _ _ _ _)
      | (with_reducible exact laws_markMatrix.mono _ _ _ _ _ _)
      | (with_reducible exact laws_markSpace.mono _ _ _ _ _)
      | (with_reducible exact laws_heldSpace.mono _ _ _ _ _)
      | (with_reducible exact LeO.refl _)
      | (with_reducible exact LeO.none _)
      | (with_reducible refine LeO.ite ?_ ?_)
      | (with_reducible refine LeO.bind ?_ (fun _ => ?_))
theorem Z5.k {p : Prop} (h : p) : Aside0 p := ⟨h⟩
theorem Z5.z13 {P : Prop} (h : P := by repeat (first | exact (Kd.R_reads' HD2.out).2.2 | (with_reducible refine Kd.C_alloc ?_ _) | (with_reducible refine Kd.C_drewN ?_ _) | (with_reducible refine Kd.C_drew ?_))) : P := h
theorem Z5.z12 {P : Prop} (h : P := by (with_reducible repeat (first | apply Kd.S_alloc | apply Kd.S_drewN | apply Kd.S_drew)); exact HH.out) : P := h
theorem Z5.z11 {P : Prop} (h : P := by repeat (first | exact (Kd.S_reads' HS.out).2.2 | (with_reducible refine Kd.C_alloc ?_ _) | (with_reducible refine Kd.C_drewN ?_ _) | (with_reducible refine Kd.C_drew ?_))) : P := h
theorem Z5.z10 {P : Prop} (h : P := by repeat (first | exact (Kd.S_reads' HG.out).2.2 | (with_reducible refine Kd.C_alloc ?_ _) | (with_reducible refine Kd.C_drewN ?_ _) | (with_reducible refine Kd.C_drew ?_))) : P := h
theorem Z5.z9 {P : Prop} (h : P := by (with_reducible repeat (first | apply Kd.R_alloc | apply Kd.R_drewN | apply Kd.R_drew)); exact HD2.out) : P := h
theorem Z5.z8 {P : Prop} (h : P := by exact ⟨(blk_cell BKX.out 0).trans rfl, (blk_cell BKX.out 1).trans rfl, (blk_cell BKX.out 2).trans rfl, (blk_cell BKX.out 3).trans rfl, (blk_cell BKM.out 0).trans rfl, (blk_cell BKM.out 1).trans rfl, (blk_cell BKM.out 2).trans rfl, (blk_cell BKM.out 3).trans rfl⟩) : P := h
theorem Z5.z7 {P : Prop} (h : P := by repeat (first | exact (Kd.C_below HR.out HB.out) | (with_reducible refine Kd.C_alloc ?_ _) | (with_reducible refine Kd.C_drewN ?_ _) | (with_reducible refine Kd.C_drew ?_))) : P := h
theorem Z5.z6 {P : Prop} (h : P := by (with_reducible repeat (first | apply Kd.S_alloc | apply Kd.S_drewN | apply Kd.S_drew)); exact HG.out) : P := h
theorem Z5.z5 {P : Prop} (h : P := by (with_reducible repeat (first | refine blk_drewN ?_ _ | refine blk_drew ?_ | refine blk_alloc ?_ _)); exact BKG.out) : P := h
theorem Z5.z4 {P : Prop} (h : P := by (with_reducible repeat (first | refine blk_drewN ?_ _ | refine blk_drew ?_ | refine blk_alloc ?_ _)); exact BKX.out) : P := h
theorem Z5.z3 {P : Prop} (h : P := by (with_reducible repeat (first | apply Kd.S_alloc | apply Kd.S_drewN | apply Kd.S_drew)); exact HS.out) : P := h
theorem Z5.z2 {P : Prop} (h : P := by (with_reducible repeat (first | refine blk_drewN ?_ _ | refine blk_drew ?_ | refine blk_alloc ?_ _)); exact BKW.out) : P := h
theorem Z5.z1 {P : Prop} (h : P := by (with_reducible repeat (first | refine blk_drewN ?_ _ | refine blk_drew ?_ | refine blk_alloc ?_ _)); exact BKM.out) : P := h
theorem Z5.z0 {P : Prop} (h : P := by repeat (first | (with_reducible first | exact HB.out | apply below_alloc | apply pw_below_drewN | apply below_drew1) | exact HB.out)) : P := h
set_option maxHeartbeats 8000000 in
set_option maxRecDepth 100000 in
theorem laws_FnExactColumnSpace.calls (k : Nat) (a0_0 : Int) (a0_1 : Int) (a0_2 : Int) (A0_3 : Option Addr) (c0_3 : Nat) (l0_3 : List Int) (r : Bool) (w : World) (hr : Kd.C (Kd.int .i64) w A0_3 l0_3.length l0_3) (hc : l0_3.length ≤ c0_3) (h : laws_FnExactColumnSpace.f k a0_0 a0_1 a0_2 l0_3 = some r) :
  Calls Try.prog 5 #[.agg #[.int .i64 a0_0, .int .i64 a0_1, .int .i64 a0_2, .slice A0_3 l0_3.length c0_3]] w fun e w' => e = .returned (.bool r) ∧ Below w.heap.size w w' := by
 have hu := Try.underlying27
 have hu2 := Try.underlying43
 have hu3 := Try.underlying40
 have HR := Z5.k hr
 have HC := Z5.k hc
 clear hr hc
 have HB := Z5.k (Below.refl w.heap.size w)
 unfold laws_FnExactColumnSpace.f at h
 replace h := Option.bind_eq_some_iff.mp h
 obtain ⟨t, At0, h⟩ := h
 have At := Z5.k At0
 clear At0
 by_cases c : t < 0
 ·rw [if_pos c] at h
  have hcb : decide (t < 0) = true := decide_eq_true c
  clear c
  obtain rfl := Option.some.inj h
  clear h
  go_enter Try.func5, Try.ntmps5
  go_upto_region 1 with (fail)
  obtain ⟨wn1, hw_⟩ : ∃ w_ : World, w_ = w.alloc (.cells #[.int .i64 a0_0, .int .i64 a0_1, .int .i64 a0_2, .slice A0_3 l0_3.length c0_3] 40 (0, 0)) := ⟨_, rfl⟩
  rw [← hw_]
  have hb : Below w.heap.size w wn1 := by rw [hw_]; exact (Below.refl _ _).alloc (Nat.le_refl _) _
  have m_ : Aside0 (wn1.heap[w.heap.size]? = some (.cells #[.int .i64 a0_0, .int .i64 a0_1, .int .i64 a0_2, .slice A0_3 l0_3.length c0_3] 40 (0, 0))) := ⟨(by rw [hw_]; exact blk_new _ _)⟩
  obtain ⟨gbM, hg⟩ : ∃ g_ : Nat, g_ = w.heap.size := ⟨_, rfl⟩
  rw [← hg] at m_ ⊢
  have HGBKM := Z5.k hg
  have HMBKM := Z5.k (show gbM < wn1.heap.size from blk_lt m_.out)
  clear hg hw_
  have nB_ := Z5.k (below_step Z5.z0 hb)
  have hz_ := hb.size
  clear hb
  have HZ1 := Z5.k (show w.heap.size ≤ wn1.heap.size from hz_)
  clear hz_ HB
  have HB := nB_
  clear nB_
  have BKM := m_
  clear m_
  have hcBKM_0_1 : wn1.cell? ⟨gbM, 0, none⟩ = some (.int .i64 a0_0) := (blk_cell BKM.out 0).trans rfl
  have hfBKM_0_1 := blk_frozen BKM.out 0
  have hcBKM_1_1 : wn1.cell? ⟨gbM, 1, none⟩ = some (.int .i64 a0_1) := (blk_cell BKM.out 1).trans rfl
  have hfBKM_1_1 := blk_frozen BKM.out 1
  have hcBKM_2_1 : wn1.cell? ⟨gbM, 2, none⟩ = some (.int .i64 a0_2) := (blk_cell BKM.out 2).trans rfl
  have hfBKM_2_1 := blk_frozen BKM.out 2
  have hcBKM_3_1 : wn1.cell? ⟨gbM, 3, none⟩ = some (.slice A0_3 l0_3.length c0_3) := (blk_cell BKM.out 3).trans rfl
  have hfBKM_3_1 := blk_frozen BKM.out 3
  go_wp2_with (first | (go_at_call 20; (refine (laws_szMatrix.calls a0_0 a0_1 a0_2 _ _ l0_3 1048576 t _ ?side1 ?side2 At.out).mono ?_); (case side1 => exact Z5.z7); (case side2 => exact HC.out); rintro e wn2 ⟨rfl, hb⟩; have nB_ := Z5.k (below_step Z5.z0 hb); have hz_ := hb.size; have nBKM_ : Aside0 (wn2.heap[gbM]? = some (.cells #[.int .i64 a0_0, .int .i64 a0_1, .int .i64 a0_2, .slice A0_3 l0_3.length c0_3] 40 (0, 0))) := ⟨blk_below Z5.z1 hb⟩; clear hb; have HZ2 := Z5.k (show wn1.heap.size ≤ wn2.heap.size from hz_); clear hz_ HB BKM; have HB := nB_; have BKM := nBKM_; clear nBKM_; clear nB_))
  go_ret
  exact ⟨rfl, Z5.z0⟩
 rw [if_neg c] at h
 have hcb : decide (t < 0) = false := decide_eq_false c
 clear c
 replace h := Option.bind_eq_some_iff.mp h
 obtain ⟨⟨x0, x1, x2, D⟩, AD0, h⟩ := h
 have AD := Z5.k AD0
 clear AD0
 replace h := Option.bind_eq_some_iff.mp h
 obtain ⟨⟨sp1, sp2, spl, spe⟩, AW0, h⟩ := h
 have AW := Z5.k (show spec_ColumnSpace.f k x0 x1 x2 D = some (sp1, sp2, spl, spe) from AW0)
 clear AW0
 replace h := Option.bind_eq_some_iff.mp h
 obtain ⟨⟨g1, g2, gl, ge⟩, AG0, h⟩ := h
 have AG := Z5.k (show impl_ColumnSpace.f k x0 x1 x2 D = some (g1, g2, gl, ge) from AG0)
 clear AG0
 replace h := Option.bind_eq_some_iff.mp h
 obtain ⟨b, AE0, h⟩ := h
 by_cases cb : b = true
 rotate_left
 ·rw [if_neg cb] at h; exact absurd h (by simp)
 subst cb
 rw [if_pos rfl] at h
 have AE := Z5.k (show laws_eqSpace.f k g1 g2 gl sp1 sp2 spl = some true from AE0)
 clear AE0
 by_cases ce : ge = spe
 rotate_left
 ·rw [if_neg ce] at h; exact absurd h (by simp)
 subst ce
 rw [if_pos rfl] at h
 replace h := Option.bind_eq_some_iff.mp h
 obtain ⟨b2, AF0, h⟩ := h
 by_cases cb : b2 = true
 rotate_left
 ·rw [if_neg cb] at h; exact absurd h (by simp)
 subst cb
 rw [if_pos rfl] at h
 have AF := Z5.k (show laws_eqMatrix.f k x0 x1 x2 D x0 x1 x2 D = some true from AF0)
 clear AF0
 replace h := Option.bind_eq_some_iff.mp h
 obtain ⟨⟨m1, D'⟩, AM0, h⟩ := h
 have AM := Z5.k (show laws_markMatrix.f k x0 x1 x2 D 1 = some (m1, D') from AM0)
 clear AM0
 by_cases cm : m1 < 0
 ·rw [if_pos cm] at h; exact absurd h (by simp)
 rw [if_neg cm] at h
 have hcm1 : decide (m1 < 0) = false := decide_eq_false cm
 clear cm
 replace h := Option.bind_eq_some_iff.mp h
 obtain ⟨⟨m2, gl'⟩, AN0, h⟩ := h
 have AN := Z5.k (show laws_markSpace.f k g1 g2 gl 1 = some (m2, gl') from AN0)
 clear AN0
 replace h := Option.bind_eq_some_iff.mp h
 obtain ⟨q, AQ0, h⟩ := h
 have AQ := Z5.k (show laws_heldSpace.f k g1 g2 gl' 1 = some q from AQ0)
 clear AQ0
 by_cases cm : q < 0
 ·rw [if_pos cm] at h; exact absurd h (by simp)
 rw [if_neg cm] at h
 have hcq : decide (q < 0) = false := decide_eq_false cm
 clear cm
 by_cases ce : q = m2
 rotate_left
 ·rw [if_neg ce] at h; exact absurd h (by simp)
 subst ce
 rw [if_pos rfl] at h
 obtain rfl := Option.some.inj h
 clear h
 go_enter Try.func5, Try.ntmps5
 go_upto_region 1 with (fail)
 obtain ⟨wn1, hw_⟩ : ∃ w_ : World, w_ = w.alloc (.cells #[.int .i64 a0_0, .int .i64 a0_1, .int .i64 a0_2, .slice A0_3 l0_3.length c0_3] 40 (0, 0)) := ⟨_, rfl⟩
 rw [← hw_]
 have hb : Below w.heap.size w wn1 := by rw [hw_]; exact (Below.refl _ _).alloc (Nat.le_refl _) _
 have m_ : Aside0 (wn1.heap[w.heap.size]? = some (.cells #[.int .i64 a0_0, .int .i64 a0_1, .int .i64 a0_2, .slice A0_3 l0_3.length c0_3] 40 (0, 0))) := ⟨(by rw [hw_]; exact blk_new _ _)⟩
 obtain ⟨gbM, hg⟩ : ∃ g_ : Nat, g_ = w.heap.size := ⟨_, rfl⟩
 rw [← hg] at m_ ⊢
 have HGBKM := Z5.k hg
 have HMBKM := Z5.k (show gbM < wn1.heap.size from blk_lt m_.out)
 clear hg hw_
 have nB_ := Z5.k (below_step Z5.z0 hb)
 have hz_ := hb.size
 clear hb
 have HZ1 := Z5.k (show w.heap.size ≤ wn1.heap.size from hz_)
 clear hz_ HB
 have HB := nB_
 clear nB_
 have BKM := m_
 clear m_
 have hcBKM_0_1 : wn1.cell? ⟨gbM, 0, none⟩ = some (.int .i64 a0_0) := (blk_cell BKM.out 0).trans rfl
 have hfBKM_0_1 := blk_frozen BKM.out 0
 have hcBKM_1_1 : wn1.cell? ⟨gbM, 1, none⟩ = some (.int .i64 a0_1) := (blk_cell BKM.out 1).trans rfl
 have hfBKM_1_1 := blk_frozen BKM.out 1
 have hcBKM_2_1 : wn1.cell? ⟨gbM, 2, none⟩ = some (.int .i64 a0_2) := (blk_cell BKM.out 2).trans rfl
 have hfBKM_2_1 := blk_frozen BKM.out 2
 have hcBKM_3_1 : wn1.cell? ⟨gbM, 3, none⟩ = some (.slice A0_3 l0_3.length c0_3) := (blk_cell BKM.out 3).trans rfl
 have hfBKM_3_1 := blk_frozen BKM.out 3
 go_upto_region 5 with (first | (go_at_call 20; (refine (laws_szMatrix.calls a0_0 a0_1 a0_2 _ _ l0_3 1048576 t _ ?side1 ?side2 At.out).mono ?_); (case side1 => exact Z5.z7); (case side2 => exact HC.out); rintro e wn2 ⟨rfl, hb⟩; have nB_ := Z5.k (below_step Z5.z0 hb); have hz_ := hb.size; have nBKM_ : Aside0 (wn2.heap[gbM]? = some (.cells #[.int .i64 a0_0, .int .i64 a0_1, .int .i64 a0_2, .slice A0_3 l0_3.length c0_3] 40 (0, 0))) := ⟨blk_below Z5.z1 hb⟩; clear hb; have HZ2 := Z5.k (show wn1.heap.size ≤ wn2.heap.size from hz_); clear hz_ HB BKM; have HB := nB_; have BKM := nBKM_; clear nBKM_; clear nB_))
 have hcBKM_0_2 : wn2.cell? ⟨gbM, 0, none⟩ = some (.int .i64 a0_0) := (blk_cell BKM.out 0).trans rfl
 have hfBKM_0_2 := blk_frozen BKM.out 0
 have hcBKM_1_2 : wn2.cell? ⟨gbM, 1, none⟩ = some (.int .i64 a0_1) := (blk_cell BKM.out 1).trans rfl
 have hfBKM_1_2 := blk_frozen BKM.out 1
 have hcBKM_2_2 : wn2.cell? ⟨gbM, 2, none⟩ = some (.int .i64 a0_2) := (blk_cell BKM.out 2).trans rfl
 have hfBKM_2_2 := blk_frozen BKM.out 2
 have hcBKM_3_2 : wn2.cell? ⟨gbM, 3, none⟩ = some (.slice A0_3 l0_3.length c0_3) := (blk_cell BKM.out 3).trans rfl
 have hfBKM_3_2 := blk_frozen BKM.out 3
 go_upto_region 6 with (first | (go_at_call 22; (refine (laws_toMatrix.calls k a0_0 a0_1 a0_2 _ _ l0_3 x0 x1 x2 D _ ?side1 ?side2 AD.out).mono ?_); (case side1 => exact Z5.z7); (case side2 => exact HC.out); rintro e wn3 ⟨vD1, rfl, ho, hb⟩; obtain ⟨MD1, cD1, ev_⟩ := Kd.R_slice ho; subst ev_; have m_ : Aside0 (Kd.R (Kd.int .i64) 2 wn3 w.heap.size (fun k_ => wn2.heap.size ≤ k_ ∧ k_ < wn3.heap.size) (.slice MD1 D.length cD1) D) := ⟨Kd.R_lower (Kd.R_mono (Kd.R_bound ho) (fun k_ hk_ => ⟨hk_.2.1, hk_.2.2.1⟩)) (below_size Z5.z0)⟩; clear ho; have nB_ := Z5.k (below_step Z5.z0 hb); have hz_ := hb.size; have nBKM_ : Aside0 (wn3.heap[gbM]? = some (.cells #[.int .i64 a0_0, .int .i64 a0_1, .int .i64 a0_2, .slice A0_3 l0_3.length c0_3] 40 (0, 0))) := ⟨blk_below Z5.z1 hb⟩; clear hb; have HZ3 := Z5.k (show wn2.heap.size ≤ wn3.heap.size from hz_); clear hz_ HB BKM; have HB := nB_; have BKM := nBKM_; clear nBKM_ nB_; have HD1 := m_; clear m_) | (go_at_call 21; (refine (spec_ColumnSpace.calls k x0 x1 x2 _ _ D sp1 sp2 spl ge _ ?side1 ?side2 AW.out).mono ?_); (case side1 => exact (by repeat (first | exact (Kd.R_reads' HD1.out).2.2 | (with_reducible refine Kd.C_alloc ?_ _) | (with_reducible refine Kd.C_drewN ?_ _) | (with_reducible refine Kd.C_drew ?_)))); (case side2 => exact (Kd.R_reads' HD1.out).2.1); rintro e wn4 ⟨vS, rfl, ho, hb⟩; obtain ⟨MS, cS, ev_⟩ := Kd.S_slice ho; subst ev_; have m_ : Aside0 (Kd.S (Kd.slice 2 (Kd.int .i64)) 38 wn4 w.heap.size (fun k_ => wn3.heap.size ≤ k_ ∧ k_ < wn4.heap.size) (.slice MS spl.length cS) spl) := ⟨Kd.S_lower (Kd.S_mono (Kd.S_bound ho) (fun k_ hk_ => ⟨hk_.2.1, hk_.2.2.1⟩)) (below_size Z5.z0)⟩; clear ho; have nB_ := Z5.k (below_step Z5.z0 hb); have hz_ := hb.size; have nHD1_ : Aside0 (Kd.R (Kd.int .i64) 2 wn4 w.heap.size (fun k_ => wn2.heap.size ≤ k_ ∧ k_ < wn3.heap.size) (.slice MD1 D.length cD1) D) := ⟨Kd.R_below (by (with_reducible repeat (first | apply Kd.R_alloc | apply Kd.R_drewN | apply Kd.R_drew)); exact HD1.out) hb⟩; have nBKM_ : Aside0 (wn4.heap[gbM]? = some (.cells #[.int .i64 a0_0, .int .i64 a0_1, .int .i64 a0_2, .slice A0_3 l0_3.length c0_3] 40 (0, 0))) := ⟨blk_below Z5.z1 hb⟩; clear hb; have HZ4 := Z5.k (show wn3.heap.size ≤ wn4.heap.size from hz_); clear hz_ HB HD1 BKM; have HB := nB_; have HD1 := nHD1_; have BKM := nBKM_; clear nHD1_ nBKM_ nB_; have HS := m_; clear m_))
 clear HD1
 obtain ⟨wn5, hw_⟩ : ∃ w_ : World, w_ = wn4.alloc (.cells #[.int .i64 sp1, .int .i64 sp2, .slice MS spl.length cS] 27 (0, 0)) := ⟨_, rfl⟩
 rw [← hw_]
 have hb : Below wn4.heap.size wn4 wn5 := by rw [hw_]; exact (Below.refl _ _).alloc (Nat.le_refl _) _
 have m_ : Aside0 (wn5.heap[wn4.heap.size]? = some (.cells #[.int .i64 sp1, .int .i64 sp2, .slice MS spl.length cS] 27 (0, 0))) := ⟨(by rw [hw_]; exact blk_new _ _)⟩
 obtain ⟨gbW, hg⟩ : ∃ g_ : Nat, g_ = wn4.heap.size := ⟨_, rfl⟩
 rw [← hg] at m_ ⊢
 have HGBKW := Z5.k hg
 have HMBKW := Z5.k (show gbW < wn5.heap.size from blk_lt m_.out)
 clear hg hw_
 have nB_ := Z5.k (below_step Z5.z0 hb)
 have hz_ := hb.size
 have nHS_ : Aside0 (Kd.S (Kd.slice 2 (Kd.int .i64)) 38 wn5 w.heap.size (fun k_ => wn3.heap.size ≤ k_ ∧ k_ < wn4.heap.size) (.slice MS spl.length cS) spl) := ⟨Kd.S_below Z5.z3 hb⟩
 have nBKM_ : Aside0 (wn5.heap[gbM]? = some (.cells #[.int .i64 a0_0, .int .i64 a0_1, .int .i64 a0_2, .slice A0_3 l0_3.length c0_3] 40 (0, 0))) := ⟨blk_below Z5.z1 hb⟩
 clear hb
 have HZ5 := Z5.k (show wn4.heap.size ≤ wn5.heap.size from hz_)
 clear hz_ HB HS BKM
 have HB := nB_
 have HS := nHS_
 have BKM := nBKM_
 clear nHS_ nBKM_ nB_
 have BKW := m_
 clear m_
 have hcBKM_0_5 : wn5.cell? ⟨gbM, 0, none⟩ = some (.int .i64 a0_0) := (blk_cell BKM.out 0).trans rfl
 have hfBKM_0_5 := blk_frozen BKM.out 0
 have hcBKM_1_5 : wn5.cell? ⟨gbM, 1, none⟩ = some (.int .i64 a0_1) := (blk_cell BKM.out 1).trans rfl
 have hfBKM_1_5 := blk_frozen BKM.out 1
 have hcBKM_2_5 : wn5.cell? ⟨gbM, 2, none⟩ = some (.int .i64 a0_2) := (blk_cell BKM.out 2).trans rfl
 have hfBKM_2_5 := blk_frozen BKM.out 2
 have hcBKM_3_5 : wn5.cell? ⟨gbM, 3, none⟩ = some (.slice A0_3 l0_3.length c0_3) := (blk_cell BKM.out 3).trans rfl
 have hfBKM_3_5 := blk_frozen BKM.out 3
 go_upto_region 7 with (first | (go_at_call 22; (refine (laws_toMatrix.calls k a0_0 a0_1 a0_2 _ _ l0_3 x0 x1 x2 D _ ?side1 ?side2 AD.out).mono ?_); (case side1 => exact Z5.z7); (case side2 => exact HC.out); rintro e wn6 ⟨vD2, rfl, ho, hb⟩; obtain ⟨MD2, cD2, ev_⟩ := Kd.R_slice ho; subst ev_; have m_ : Aside0 (Kd.R (Kd.int .i64) 2 wn6 w.heap.size (fun k_ => wn5.heap.size ≤ k_ ∧ k_ < wn6.heap.size) (.slice MD2 D.length cD2) D) := ⟨Kd.R_lower (Kd.R_mono (Kd.R_bound ho) (fun k_ hk_ => ⟨hk_.2.1, hk_.2.2.1⟩)) (below_size Z5.z0)⟩; clear ho; have nB_ := Z5.k (below_step Z5.z0 hb); have hz_ := hb.size; have nHS_ : Aside0 (Kd.S (Kd.slice 2 (Kd.int .i64)) 38 wn6 w.heap.size (fun k_ => wn3.heap.size ≤ k_ ∧ k_ < wn4.heap.size) (.slice MS spl.length cS) spl) := ⟨Kd.S_below Z5.z3 hb⟩; have nBKM_ : Aside0 (wn6.heap[gbM]? = some (.cells #[.int .i64 a0_0, .int .i64 a0_1, .int .i64 a0_2, .slice A0_3 l0_3.length c0_3] 40 (0, 0))) := ⟨blk_below Z5.z1 hb⟩; have nBKW_ : Aside0 (wn6.heap[gbW]? = some (.cells #[.int .i64 sp1, .int .i64 sp2, .slice MS spl.length cS] 27 (0, 0))) := ⟨blk_below Z5.z2 hb⟩; clear hb; have HZ6 := Z5.k (show wn5.heap.size ≤ wn6.heap.size from hz_); clear hz_ HB HS BKM BKW; have HB := nB_; have HS := nHS_; have BKM := nBKM_; have BKW := nBKW_; clear nHS_ nBKM_ nBKW_ nB_; have HD2 := m_; clear m_))
 obtain ⟨wn7, hw_⟩ : ∃ w_ : World, w_ = wn6.alloc (.cells #[.int .i64 x0, .int .i64 x1, .int .i64 x2, .slice MD2 D.length cD2] 43 (0, 0)) := ⟨_, rfl⟩
 rw [← hw_]
 have hb : Below wn6.heap.size wn6 wn7 := by rw [hw_]; exact (Below.refl _ _).alloc (Nat.le_refl _) _
 have m_ : Aside0 (wn7.heap[wn6.heap.size]? = some (.cells #[.int .i64 x0, .int .i64 x1, .int .i64 x2, .slice MD2 D.length cD2] 43 (0, 0))) := ⟨(by rw [hw_]; exact blk_new _ _)⟩
 obtain ⟨gbX, hg⟩ : ∃ g_ : Nat, g_ = wn6.heap.size := ⟨_, rfl⟩
 rw [← hg] at m_ ⊢
 have HGBKX := Z5.k hg
 have HMBKX := Z5.k (show gbX < wn7.heap.size from blk_lt m_.out)
 clear hg hw_
 have nB_ := Z5.k (below_step Z5.z0 hb)
 have hz_ := hb.size
 have nHS_ : Aside0 (Kd.S (Kd.slice 2 (Kd.int .i64)) 38 wn7 w.heap.size (fun k_ => wn3.heap.size ≤ k_ ∧ k_ < wn4.heap.size) (.slice MS spl.length cS) spl) := ⟨Kd.S_below Z5.z3 hb⟩
 have nHD2_ : Aside0 (Kd.R (Kd.int .i64) 2 wn7 w.heap.size (fun k_ => wn5.heap.size ≤ k_ ∧ k_ < wn6.heap.size) (.slice MD2 D.length cD2) D) := ⟨Kd.R_below Z5.z9 hb⟩
 have nBKM_ : Aside0 (wn7.heap[gbM]? = some (.cells #[.int .i64 a0_0, .int .i64 a0_1, .int .i64 a0_2, .slice A0_3 l0_3.length c0_3] 40 (0, 0))) := ⟨blk_below Z5.z1 hb⟩
 have nBKW_ : Aside0 (wn7.heap[gbW]? = some (.cells #[.int .i64 sp1, .int .i64 sp2, .slice MS spl.length cS] 27 (0, 0))) := ⟨blk_below Z5.z2 hb⟩
 clear hb
 have HZ7 := Z5.k (show wn6.heap.size ≤ wn7.heap.size from hz_)
 clear hz_ HB HS HD2 BKM BKW
 have HB := nB_
 have HS := nHS_
 have HD2 := nHD2_
 have BKM := nBKM_
 have BKW := nBKW_
 clear nHS_ nHD2_ nBKM_ nBKW_ nB_
 have BKX := m_
 clear m_
 have hcBKX_0_7 : wn7.cell? ⟨gbX, 0, none⟩ = some (.int .i64 x0) := (blk_cell BKX.out 0).trans rfl
 have hfBKX_0_7 := blk_frozen BKX.out 0
 have hcBKX_1_7 : wn7.cell? ⟨gbX, 1, none⟩ = some (.int .i64 x1) := (blk_cell BKX.out 1).trans rfl
 have hfBKX_1_7 := blk_frozen BKX.out 1
 have hcBKX_2_7 : wn7.cell? ⟨gbX, 2, none⟩ = some (.int .i64 x2) := (blk_cell BKX.out 2).trans rfl
 have hfBKX_2_7 := blk_frozen BKX.out 2
 have hcBKX_3_7 : wn7.cell? ⟨gbX, 3, none⟩ = some (.slice MD2 D.length cD2) := (blk_cell BKX.out 3).trans rfl
 have hfBKX_3_7 := blk_frozen BKX.out 3
 go_upto_region 8 with (first | (go_at_call 23; (refine (impl_ColumnSpace.calls k x0 x1 x2 _ _ D g1 g2 gl ge _ ?side1 ?side2 AG.out).mono ?_); (case side1 => exact Z5.z13); (case side2 => exact (Kd.R_reads' HD2.out).2.1); rintro e wn8 ⟨vG, rfl, ho, hb⟩; obtain ⟨MG, cG, ev_⟩ := Kd.S_slice ho; subst ev_; have m_ : Aside0 (Kd.S (Kd.slice 2 (Kd.int .i64)) 38 wn8 w.heap.size (fun k_ => wn7.heap.size ≤ k_ ∧ k_ < wn8.heap.size) (.slice MG gl.length cG) gl) := ⟨Kd.S_lower (Kd.S_mono (Kd.S_bound ho) (fun k_ hk_ => ⟨hk_.2.1, hk_.2.2.1⟩)) (below_size Z5.z0)⟩; clear ho; have nB_ := Z5.k (below_step Z5.z0 hb); have hz_ := hb.size; have nHS_ : Aside0 (Kd.S (Kd.slice 2 (Kd.int .i64)) 38 wn8 w.heap.size (fun k_ => wn3.heap.size ≤ k_ ∧ k_ < wn4.heap.size) (.slice MS spl.length cS) spl) := ⟨Kd.S_below Z5.z3 hb⟩; have nHD2_ : Aside0 (Kd.R (Kd.int .i64) 2 wn8 w.heap.size (fun k_ => wn5.heap.size ≤ k_ ∧ k_ < wn6.heap.size) (.slice MD2 D.length cD2) D) := ⟨Kd.R_below Z5.z9 hb⟩; have nBKM_ : Aside0 (wn8.heap[gbM]? = some (.cells #[.int .i64 a0_0, .int .i64 a0_1, .int .i64 a0_2, .slice A0_3 l0_3.length c0_3] 40 (0, 0))) := ⟨blk_below Z5.z1 hb⟩; have nBKW_ : Aside0 (wn8.heap[gbW]? = some (.cells #[.int .i64 sp1, .int .i64 sp2, .slice MS spl.length cS] 27 (0, 0))) := ⟨blk_below Z5.z2 hb⟩; have nBKX_ : Aside0 (wn8.heap[gbX]? = some (.cells #[.int .i64 x0, .int .i64 x1, .int .i64 x2, .slice MD2 D.length cD2] 43 (0, 0))) := ⟨blk_below Z5.z4 hb⟩; clear hb; have HZ8 := Z5.k (show wn7.heap.size ≤ wn8.heap.size from hz_); clear hz_ HB HS HD2 BKM BKW BKX; have HB := nB_; have HS := nHS_; have HD2 := nHD2_; have BKM := nBKM_; have BKW := nBKW_; have BKX := nBKX_; clear nHS_ nHD2_ nBKM_ nBKW_ nBKX_ nB_; have HG := m_; clear m_))
 obtain ⟨wn9, hw_⟩ : ∃ w_ : World, w_ = wn8.alloc (.cells #[.int .i64 g1, .int .i64 g2, .slice MG gl.length cG] 27 (0, 0)) := ⟨_, rfl⟩
 rw [← hw_]
 have hb : Below wn8.heap.size wn8 wn9 := by rw [hw_]; exact (Below.refl _ _).alloc (Nat.le_refl _) _
 have m_ : Aside0 (wn9.heap[wn8.heap.size]? = some (.cells #[.int .i64 g1, .int .i64 g2, .slice MG gl.length cG] 27 (0, 0))) := ⟨(by rw [hw_]; exact blk_new _ _)⟩
 obtain ⟨gbG, hg⟩ : ∃ g_ : Nat, g_ = wn8.heap.size := ⟨_, rfl⟩
 rw [← hg] at m_ ⊢
 have HGBKG := Z5.k hg
 have HMBKG := Z5.k (show gbG < wn9.heap.size from blk_lt m_.out)
 clear hg hw_
 have nB_ := Z5.k (below_step Z5.z0 hb)
 have hz_ := hb.size
 have nHS_ : Aside0 (Kd.S (Kd.slice 2 (Kd.int .i64)) 38 wn9 w.heap.size (fun k_ => wn3.heap.size ≤ k_ ∧ k_ < wn4.heap.size) (.slice MS spl.length cS) spl) := ⟨Kd.S_below Z5.z3 hb⟩
 have nHD2_ : Aside0 (Kd.R (Kd.int .i64) 2 wn9 w.heap.size (fun k_ => wn5.heap.size ≤ k_ ∧ k_ < wn6.heap.size) (.slice MD2 D.length cD2) D) := ⟨Kd.R_below Z5.z9 hb⟩
 have nHG_ : Aside0 (Kd.S (Kd.slice 2 (Kd.int .i64)) 38 wn9 w.heap.size (fun k_ => wn7.heap.size ≤ k_ ∧ k_ < wn8.heap.size) (.slice MG gl.length cG) gl) := ⟨Kd.S_below Z5.z6 hb⟩
 have nBKM_ : Aside0 (wn9.heap[gbM]? = some (.cells #[.int .i64 a0_0, .int .i64 a0_1, .int .i64 a0_2, .slice A0_3 l0_3.length c0_3] 40 (0, 0))) := ⟨blk_below Z5.z1 hb⟩
 have nBKW_ : Aside0 (wn9.heap[gbW]? = some (.cells #[.int .i64 sp1, .int .i64 sp2, .slice MS spl.length cS] 27 (0, 0))) := ⟨blk_below Z5.z2 hb⟩
 have nBKX_ : Aside0 (wn9.heap[gbX]? = some (.cells #[.int .i64 x0, .int .i64 x1, .int .i64 x2, .slice MD2 D.length cD2] 43 (0, 0))) := ⟨blk_below Z5.z4 hb⟩
 clear hb
 have HZ9 := Z5.k (show wn8.heap.size ≤ wn9.heap.size from hz_)
 clear hz_ HB HS HD2 HG BKM BKW BKX
 have HB := nB_
 have HS := nHS_
 have HD2 := nHD2_
 have HG := nHG_
 have BKM := nBKM_
 have BKW := nBKW_
 have BKX := nBKX_
 clear nHS_ nHD2_ nHG_ nBKM_ nBKW_ nBKX_ nB_
 have BKG := m_
 clear m_
 have hcBKG_0_9 : wn9.cell? ⟨gbG, 0, none⟩ = some (.int .i64 g1) := (blk_cell BKG.out 0).trans rfl
 have hfBKG_0_9 := blk_frozen BKG.out 0
 have hcBKG_1_9 : wn9.cell? ⟨gbG, 1, none⟩ = some (.int .i64 g2) := (blk_cell BKG.out 1).trans rfl
 have hfBKG_1_9 := blk_frozen BKG.out 1
 have hcBKG_2_9 : wn9.cell? ⟨gbG, 2, none⟩ = some (.slice MG gl.length cG) := (blk_cell BKG.out 2).trans rfl
 have hfBKG_2_9 := blk_frozen BKG.out 2
 have hcBKW_0_9 : wn9.cell? ⟨gbW, 0, none⟩ = some (.int .i64 sp1) := (blk_cell BKW.out 0).trans rfl
 have hfBKW_0_9 := blk_frozen BKW.out 0
 have hcBKW_1_9 : wn9.cell? ⟨gbW, 1, none⟩ = some (.int .i64 sp2) := (blk_cell BKW.out 1).trans rfl
 have hfBKW_1_9 := blk_frozen BKW.out 1
 have hcBKW_2_9 : wn9.cell? ⟨gbW, 2, none⟩ = some (.slice MS spl.length cS) := (blk_cell BKW.out 2).trans rfl
 have hfBKW_2_9 := blk_frozen BKW.out 2
 go_upto_region 10 with (first | (go_at_call 11; (refine (laws_eqSpace.calls k g1 g2 _ _ gl sp1 sp2 _ _ spl true _ ?side1 ?side2 ?side3 ?side4 AE.out).mono ?_); (case side1 => exact Z5.z10); (case side2 => exact (Kd.S_reads' HG.out).2.1); (case side3 => exact Z5.z11); (case side4 => exact (Kd.S_reads' HS.out).2.1); rintro e wn10 ⟨rfl, hb⟩; have nB_ := Z5.k (below_step Z5.z0 hb); have hz_ := hb.size; have nHS_ : Aside0 (Kd.S (Kd.slice 2 (Kd.int .i64)) 38 wn10 w.heap.size (fun k_ => wn3.heap.size ≤ k_ ∧ k_ < wn4.heap.size) (.slice MS spl.length cS) spl) := ⟨Kd.S_below Z5.z3 hb⟩; have nHD2_ : Aside0 (Kd.R (Kd.int .i64) 2 wn10 w.heap.size (fun k_ => wn5.heap.size ≤ k_ ∧ k_ < wn6.heap.size) (.slice MD2 D.length cD2) D) := ⟨Kd.R_below Z5.z9 hb⟩; have nHG_ : Aside0 (Kd.S (Kd.slice 2 (Kd.int .i64)) 38 wn10 w.heap.size (fun k_ => wn7.heap.size ≤ k_ ∧ k_ < wn8.heap.size) (.slice MG gl.length cG) gl) := ⟨Kd.S_below Z5.z6 hb⟩; have nBKM_ : Aside0 (wn10.heap[gbM]? = some (.cells #[.int .i64 a0_0, .int .i64 a0_1, .int .i64 a0_2, .slice A0_3 l0_3.length c0_3] 40 (0, 0))) := ⟨blk_below Z5.z1 hb⟩; have nBKW_ : Aside0 (wn10.heap[gbW]? = some (.cells #[.int .i64 sp1, .int .i64 sp2, .slice MS spl.length cS] 27 (0, 0))) := ⟨blk_below Z5.z2 hb⟩; have nBKX_ : Aside0 (wn10.heap[gbX]? = some (.cells #[.int .i64 x0, .int .i64 x1, .int .i64 x2, .slice MD2 D.length cD2] 43 (0, 0))) := ⟨blk_below Z5.z4 hb⟩; have nBKG_ : Aside0 (wn10.heap[gbG]? = some (.cells #[.int .i64 g1, .int .i64 g2, .slice MG gl.length cG] 27 (0, 0))) := ⟨blk_below Z5.z5 hb⟩; clear hb; have HZ10 := Z5.k (show wn9.heap.size ≤ wn10.heap.size from hz_); clear hz_ HB HS HD2 HG BKM BKW BKX BKG; have HB := nB_; have HS := nHS_; have HD2 := nHD2_; have HG := nHG_; have BKM := nBKM_; have BKW := nBKW_; have BKX := nBKX_; have BKG := nBKG_; clear nHS_ nHD2_ nHG_ nBKM_ nBKW_ nBKX_ nBKG_; clear nB_))
 have nHS_ := Z5.k (Kd.S_drew HS.out)
 have nHD2_ := Z5.k (Kd.R_drew HD2.out)
 have nHG_ := Z5.k (Kd.S_drew HG.out)
 have nBKM_ := Z5.k (blk_drew BKM.out)
 have nBKW_ := Z5.k (blk_drew BKW.out)
 have nBKX_ := Z5.k (blk_drew BKX.out)
 have nBKG_ := Z5.k (blk_drew BKG.out)
 have nB_ := Z5.k (below_drew1 HB.out)
 have HZ11 := Z5.k (show wn10.heap.size ≤ wn10.drew.heap.size from Nat.le_refl _)
 clear HB HS HD2 HG BKM BKW BKX BKG
 have HB := nB_
 have HS := nHS_
 have HD2 := nHD2_
 have HG := nHG_
 have BKM := nBKM_
 have BKW := nBKW_
 have BKX := nBKX_
 have BKG := nBKG_
 clear nB_ nHS_ nHD2_ nHG_ nBKM_ nBKW_ nBKX_ nBKG_
 refine start_ (n := 5) (S := fun w' => w'.cell? ⟨gbX, 0, none⟩ = some (.int .i64 x0) ∧ w'.cell? ⟨gbX, 1, none⟩ = some (.int .i64 x1) ∧ w'.cell? ⟨gbX, 2, none⟩ = some (.int .i64 x2) ∧ w'.cell? ⟨gbX, 3, none⟩ = some (.slice MD2 D.length cD2) ∧ w'.cell? ⟨gbM, 0, none⟩ = some (.int .i64 a0_0) ∧ w'.cell? ⟨gbM, 1, none⟩ = some (.int .i64 a0_1) ∧ w'.cell? ⟨gbM, 2, none⟩ = some (.int .i64 a0_2) ∧ w'.cell? ⟨gbM, 3, none⟩ = some (.slice A0_3 l0_3.length c0_3)) (ds := []) #[false, false, false, false, false] (by kernel_rfl) rfl rfl Z5.z8 (fun hHeld => ?_)
 generalize wn10.drew = wn11 at HZ11 HB HS HD2 HG BKM BKW BKX BKG hHeld ⊢
 refine take_ (i := 0) (N := some 41) (v := ?_) (a' := ?_) #[true, false, false, false, false] rfl rfl (by kernel_rfl) (fun _ _ _ h => h) (Or.inl ⟨(by rfl), ?_⟩) hHeld ?_ ?_
 rotate_left
 ·rintro w' ⟨s0, s1, s2, s3, s4, s5, s6, s7⟩
  go_simp
  with_reducible rfl
 rotate_left
 ·simp only [Act.put, List.setIfInBounds_toArray, List.set_cons_zero, List.set_cons_succ, i64_w, i32_w]; rfl
 refine take_ (i := 1) (N := some 42) (v := ?_) (a' := ?_) #[true, true, false, false, false] rfl rfl (by kernel_rfl) (fun _ _ _ h => h) (Or.inl ⟨(by rfl), ?_⟩) hHeld ?_ ?_
 rotate_left
 ·rintro w' ⟨s0, s1, s2, s3, s4, s5, s6, s7⟩
  go_simp
  with_reducible rfl
 rotate_left
 ·simp only [Act.put, List.setIfInBounds_toArray, List.set_cons_zero, List.set_cons_succ, i64_w, i32_w]; rfl
 refine one_ (i := 2) (N := some 43) #[true, true, true, false, false] rfl rfl (by kernel_rfl) (by decide) (fun K hK => ?_)
 refine goes_ Try.func22 (by kernel_rfl) rfl #[.agg #[.int .i64 a0_0, .int .i64 a0_1, .int .i64 a0_2, .slice A0_3 l0_3.length c0_3]] (by rfl) rfl rfl (by (try simp only [List.map_toArray, List.map_cons, List.map_nil]); first | done | rfl) ?_
 (refine (laws_toMatrix.calls k a0_0 a0_1 a0_2 _ _ l0_3 x0 x1 x2 D _ ?side1 ?side2 AD.out).mono ?_)
 (case side1 => exact Z5.z7)
 (case side2 => exact HC.out)
 rintro e wn12 ⟨vD3, rfl, ho, hb⟩
 refine ⟨_, rfl, ?_⟩
 obtain ⟨MD3, cD3, ev_⟩ := Kd.R_slice ho
 subst ev_
 have m_ : Aside0 (Kd.R (Kd.int .i64) 2 wn12 w.heap.size (fun k_ => wn11.heap.size ≤ k_ ∧ k_ < wn12.heap.size) (.slice MD3 D.length cD3) D) := ⟨Kd.R_lower (Kd.R_mono (Kd.R_bound ho) (fun k_ hk_ => ⟨hk_.2.1, hk_.2.2.1⟩)) (below_size Z5.z0)⟩
 clear ho
 have nB_ := Z5.k (below_step Z5.z0 hb)
 have hz_ := hb.size
 have nHS_ : Aside0 (Kd.S (Kd.slice 2 (Kd.int .i64)) 38 wn12 w.heap.size (fun k_ => wn3.heap.size ≤ k_ ∧ k_ < wn4.heap.size) (.slice MS spl.length cS) spl) := ⟨Kd.S_below Z5.z3 hb⟩
 have nHD2_ : Aside0 (Kd.R (Kd.int .i64) 2 wn12 w.heap.size (fun k_ => wn5.heap.size ≤ k_ ∧ k_ < wn6.heap.size) (.slice MD2 D.length cD2) D) := ⟨Kd.R_below Z5.z9 hb⟩
 have nHG_ : Aside0 (Kd.S (Kd.slice 2 (Kd.int .i64)) 38 wn12 w.heap.size (fun k_ => wn7.heap.size ≤ k_ ∧ k_ < wn8.heap.size) (.slice MG gl.length cG) gl) := ⟨Kd.S_below Z5.z6 hb⟩
 have nBKM_ : Aside0 (wn12.heap[gbM]? = some (.cells #[.int .i64 a0_0, .int .i64 a0_1, .int .i64 a0_2, .slice A0_3 l0_3.length c0_3] 40 (0, 0))) := ⟨blk_below Z5.z1 hb⟩
 have nBKW_ : Aside0 (wn12.heap[gbW]? = some (.cells #[.int .i64 sp1, .int .i64 sp2, .slice MS spl.length cS] 27 (0, 0))) := ⟨blk_below Z5.z2 hb⟩
 have nBKX_ : Aside0 (wn12.heap[gbX]? = some (.cells #[.int .i64 x0, .int .i64 x1, .int .i64 x2, .slice MD2 D.length cD2] 43 (0, 0))) := ⟨blk_below Z5.z4 hb⟩
 have nBKG_ : Aside0 (wn12.heap[gbG]? = some (.cells #[.int .i64 g1, .int .i64 g2, .slice MG gl.length cG] 27 (0, 0))) := ⟨blk_below Z5.z5 hb⟩
 clear hb
 have HZ12 := Z5.k (show wn11.heap.size ≤ wn12.heap.size from hz_)
 clear hz_ HB HS HD2 HG BKM BKW BKX BKG
 have HB := nB_
 have HS := nHS_
 have HD2 := nHD2_
 have HG := nHG_
 have BKM := nBKM_
 have BKW := nBKW_
 have BKX := nBKX_
 have BKG := nBKG_
 clear nHS_ nHD2_ nHG_ nBKM_ nBKW_ nBKX_ nBKG_ nB_
 have HD3 := m_
 clear m_
 refine hK.out _ _ Z5.z8 (fun hHeld => ?_)
 clear hK K
 refine norm_ (a' := ?_) ?_ ?_
 rotate_left
 ·show Act.put _ (some 43) _ = _
  simp only [Act.put, List.setIfInBounds_toArray, List.set_cons_zero, List.set_cons_succ, i64_w, i32_w]
  rfl
 refine one_ (i := 3) (N := some 44) #[true, true, true, true, false] rfl rfl (by kernel_rfl) (by decide) (fun K hK => ?_)
 refine goes_ Try.func24 (by kernel_rfl) rfl #[.agg #[.int .i64 x0, .int .i64 x1, .int .i64 x2, .slice MD2 D.length cD2], .agg #[.int .i64 x0, .int .i64 x1, .int .i64 x2, .slice MD3 D.length cD3]] (by rfl) rfl rfl (by (try simp only [List.map_toArray, List.map_cons, List.map_nil]); first | done | rfl) ?_
 (refine (laws_eqMatrix.calls k x0 x1 x2 _ _ D x0 x1 x2 _ _ D true _ ?side1 ?side2 ?side3 ?side4 AF.out).mono ?_)
 (case side1 => exact Z5.z13)
 (case side2 => exact (Kd.R_reads' HD2.out).2.1)
 (case side3 => exact (by repeat (first | exact (Kd.R_reads' HD3.out).2.2 | (with_reducible refine Kd.C_alloc ?_ _) | (with_reducible refine Kd.C_drewN ?_ _) | (with_reducible refine Kd.C_drew ?_))))
 (case side4 => exact (Kd.R_reads' HD3.out).2.1)
 rintro e wn13 ⟨rfl, hb⟩
 refine ⟨_, rfl, ?_⟩
 have nB_ := Z5.k (below_step Z5.z0 hb)
 have hz_ := hb.size
 have nHS_ : Aside0 (Kd.S (Kd.slice 2 (Kd.int .i64)) 38 wn13 w.heap.size (fun k_ => wn3.heap.size ≤ k_ ∧ k_ < wn4.heap.size) (.slice MS spl.length cS) spl) := ⟨Kd.S_below Z5.z3 hb⟩
 have nHD2_ : Aside0 (Kd.R (Kd.int .i64) 2 wn13 w.heap.size (fun k_ => wn5.heap.size ≤ k_ ∧ k_ < wn6.heap.size) (.slice MD2 D.length cD2) D) := ⟨Kd.R_below Z5.z9 hb⟩
 have nHG_ : Aside0 (Kd.S (Kd.slice 2 (Kd.int .i64)) 38 wn13 w.heap.size (fun k_ => wn7.heap.size ≤ k_ ∧ k_ < wn8.heap.size) (.slice MG gl.length cG) gl) := ⟨Kd.S_below Z5.z6 hb⟩
 have nHD3_ : Aside0 (Kd.R (Kd.int .i64) 2 wn13 w.heap.size (fun k_ => wn11.heap.size ≤ k_ ∧ k_ < wn12.heap.size) (.slice MD3 D.length cD3) D) := ⟨Kd.R_below (by (with_reducible repeat (first | apply Kd.R_alloc | apply Kd.R_drewN | apply Kd.R_drew)); exact HD3.out) hb⟩
 have nBKM_ : Aside0 (wn13.heap[gbM]? = some (.cells #[.int .i64 a0_0, .int .i64 a0_1, .int .i64 a0_2, .slice A0_3 l0_3.length c0_3] 40 (0, 0))) := ⟨blk_below Z5.z1 hb⟩
 have nBKW_ : Aside0 (wn13.heap[gbW]? = some (.cells #[.int .i64 sp1, .int .i64 sp2, .slice MS spl.length cS] 27 (0, 0))) := ⟨blk_below Z5.z2 hb⟩
 have nBKX_ : Aside0 (wn13.heap[gbX]? = some (.cells #[.int .i64 x0, .int .i64 x1, .int .i64 x2, .slice MD2 D.length cD2] 43 (0, 0))) := ⟨blk_below Z5.z4 hb⟩
 have nBKG_ : Aside0 (wn13.heap[gbG]? = some (.cells #[.int .i64 g1, .int .i64 g2, .slice MG gl.length cG] 27 (0, 0))) := ⟨blk_below Z5.z5 hb⟩
 clear hb
 have HZ13 := Z5.k (show wn12.heap.size ≤ wn13.heap.size from hz_)
 clear hz_ HB HS HD2 HG HD3 BKM BKW BKX BKG
 have HB := nB_
 have HS := nHS_
 have HD2 := nHD2_
 have HG := nHG_
 have HD3 := nHD3_
 have BKM := nBKM_
 have BKW := nBKW_
 have BKX := nBKX_
 have BKG := nBKG_
 clear nHS_ nHD2_ nHG_ nHD3_ nBKM_ nBKW_ nBKX_ nBKG_ nB_
 refine hK.out _ _ Z5.z8 (fun hHeld => ?_)
 clear hK K
 refine norm_ (a' := ?_) ?_ ?_
 rotate_left
 ·show Act.put _ (some 44) _ = _
  simp only [Act.put, List.setIfInBounds_toArray, List.set_cons_zero, List.set_cons_succ, i64_w, i32_w]
  rfl
 refine pure_ (i := 4) (N := some 45) (v := ?_) (a' := ?_) #[true, true, true, true, true] rfl rfl (by kernel_rfl) (fun _ _ _ h => h) (Or.inl ⟨(by rfl), ?_⟩) ?_ ?_
 rotate_left
 ·intro w'
  go_simp
  with_reducible rfl
 rotate_left
 ·simp only [Act.put, List.setIfInBounds_toArray, List.set_cons_zero, List.set_cons_succ, i64_w, i32_w]; rfl
 refine done_ (by kernel_rfl) ?_
 go_upto_region 13 with (fail)
 clear HD3
 have hcBKX_0_13 : wn13.cell? ⟨gbX, 0, none⟩ = some (.int .i64 x0) := (blk_cell BKX.out 0).trans rfl
 have hfBKX_0_13 := blk_frozen BKX.out 0
 have hcBKX_1_13 : wn13.cell? ⟨gbX, 1, none⟩ = some (.int .i64 x1) := (blk_cell BKX.out 1).trans rfl
 have hfBKX_1_13 := blk_frozen BKX.out 1
 have hcBKX_2_13 : wn13.cell? ⟨gbX, 2, none⟩ = some (.int .i64 x2) := (blk_cell BKX.out 2).trans rfl
 have hfBKX_2_13 := blk_frozen BKX.out 2
 have hcBKX_3_13 : wn13.cell? ⟨gbX, 3, none⟩ = some (.slice MD2 D.length cD2) := (blk_cell BKX.out 3).trans rfl
 have hfBKX_3_13 := blk_frozen BKX.out 3
 go_upto_region 14 with (first | (go_at_call 25; (refine (laws_markMatrix.calls k x0 x1 x2 (fun k_ => wn5.heap.size ≤ k_ ∧ k_ < wn6.heap.size) (.slice MD2 D.length cD2) D 1 m1 D' w _ ?side1 ?side2 AM.out).mono ?_); (case side1 => exact (by exact Z5.z0)); (case side2 => exact (by exact Z5.z9)); rintro e wn14 ⟨rfl, hS_, hb, hk⟩; have m_ := Z5.k hS_; clear hS_ HD2; have nB_ := Z5.k hb; have hz_ := hk.1; have nHS_ : Aside0 (Kd.S (Kd.slice 2 (Kd.int .i64)) 38 wn14 w.heap.size (fun k_ => wn3.heap.size ≤ k_ ∧ k_ < wn4.heap.size) (.slice MS spl.length cS) spl) := ⟨Kd.S_kept Z5.z3 hk (fun k_ h1_ h2_ => by have h3_ : wn3.heap.size ≤ k_ := h1_.1; have h4_ : k_ < wn4.heap.size := h1_.2; have h5_ : wn5.heap.size ≤ k_ := h2_.1; have h6_ : k_ < wn6.heap.size := h2_.2; have := HZ1.out; have := HZ2.out; have := HZ3.out; have := HZ4.out; have := HZ5.out; have := HZ6.out; have := HZ7.out; have := HZ8.out; have := HZ9.out; have := HZ10.out; have := HZ11.out; have := HZ12.out; have := HZ13.out; omega)⟩; have nHG_ : Aside0 (Kd.S (Kd.slice 2 (Kd.int .i64)) 38 wn14 w.heap.size (fun k_ => wn7.heap.size ≤ k_ ∧ k_ < wn8.heap.size) (.slice MG gl.length cG) gl) := ⟨Kd.S_kept Z5.z6 hk (fun k_ h1_ h2_ => by have h3_ : wn7.heap.size ≤ k_ := h1_.1; have h4_ : k_ < wn8.heap.size := h1_.2; have h5_ : wn5.heap.size ≤ k_ := h2_.1; have h6_ : k_ < wn6.heap.size := h2_.2; have := HZ1.out; have := HZ2.out; have := HZ3.out; have := HZ4.out; have := HZ5.out; have := HZ6.out; have := HZ7.out; have := HZ8.out; have := HZ9.out; have := HZ10.out; have := HZ11.out; have := HZ12.out; have := HZ13.out; omega)⟩; have nBKM_ : Aside0 (wn14.heap[gbM]? = some (.cells #[.int .i64 a0_0, .int .i64 a0_1, .int .i64 a0_2, .slice A0_3 l0_3.length c0_3] 40 (0, 0))) := ⟨blk_kept Z5.z1 hk (fun h2_ => by have h5_ : wn5.heap.size ≤ gbM := h2_.1; have h6_ : gbM < wn6.heap.size := h2_.2; have := HGBKM.out; have := HMBKM.out; have := HZ1.out; have := HZ2.out; have := HZ3.out; have := HZ4.out; have := HZ5.out; have := HZ6.out; have := HZ7.out; have := HZ8.out; have := HZ9.out; have := HZ10.out; have := HZ11.out; have := HZ12.out; have := HZ13.out; omega)⟩; have nBKW_ : Aside0 (wn14.heap[gbW]? = some (.cells #[.int .i64 sp1, .int .i64 sp2, .slice MS spl.length cS] 27 (0, 0))) := ⟨blk_kept Z5.z2 hk (fun h2_ => by have h5_ : wn5.heap.size ≤ gbW := h2_.1; have h6_ : gbW < wn6.heap.size := h2_.2; have := HGBKW.out; have := HMBKW.out; have := HZ1.out; have := HZ2.out; have := HZ3.out; have := HZ4.out; have := HZ5.out; have := HZ6.out; have := HZ7.out; have := HZ8.out; have := HZ9.out; have := HZ10.out; have := HZ11.out; have := HZ12.out; have := HZ13.out; omega)⟩; have nBKX_ : Aside0 (wn14.heap[gbX]? = some (.cells #[.int .i64 x0, .int .i64 x1, .int .i64 x2, .slice MD2 D.length cD2] 43 (0, 0))) := ⟨blk_kept Z5.z4 hk (fun h2_ => by have h5_ : wn5.heap.size ≤ gbX := h2_.1; have h6_ : gbX < wn6.heap.size := h2_.2; have := HGBKX.out; have := HMBKX.out; have := HZ1.out; have := HZ2.out; have := HZ3.out; have := HZ4.out; have := HZ5.out; have := HZ6.out; have := HZ7.out; have := HZ8.out; have := HZ9.out; have := HZ10.out; have := HZ11.out; have := HZ12.out; have := HZ13.out; omega)⟩; have nBKG_ : Aside0 (wn14.heap[gbG]? = some (.cells #[.int .i64 g1, .int .i64 g2, .slice MG gl.length cG] 27 (0, 0))) := ⟨blk_kept Z5.z5 hk (fun h2_ => by have h5_ : wn5.heap.size ≤ gbG := h2_.1; have h6_ : gbG < wn6.heap.size := h2_.2; have := HGBKG.out; have := HMBKG.out; have := HZ1.out; have := HZ2.out; have := HZ3.out; have := HZ4.out; have := HZ5.out; have := HZ6.out; have := HZ7.out; have := HZ8.out; have := HZ9.out; have := HZ10.out; have := HZ11.out; have := HZ12.out; have := HZ13.out; omega)⟩; clear hb hk; have HZ14 := Z5.k (show wn13.heap.size ≤ wn14.heap.size from hz_); clear hz_ HB HS HG BKM BKW BKX BKG; have HB := nB_; have HS := nHS_; have HG := nHG_; have BKM := nBKM_; have BKW := nBKW_; have BKX := nBKX_; have BKG := nBKG_; clear nHS_ nHG_ nBKM_ nBKW_ nBKX_ nBKG_ nB_; clear m_))
 have hcBKG_0_14 : wn14.cell? ⟨gbG, 0, none⟩ = some (.int .i64 g1) := (blk_cell BKG.out 0).trans rfl
 have hfBKG_0_14 := blk_frozen BKG.out 0
 have hcBKG_1_14 : wn14.cell? ⟨gbG, 1, none⟩ = some (.int .i64 g2) := (blk_cell BKG.out 1).trans rfl
 have hfBKG_1_14 := blk_frozen BKG.out 1
 have hcBKG_2_14 : wn14.cell? ⟨gbG, 2, none⟩ = some (.slice MG gl.length cG) := (blk_cell BKG.out 2).trans rfl
 have hfBKG_2_14 := blk_frozen BKG.out 2
 have hcBKW_0_14 : wn14.cell? ⟨gbW, 0, none⟩ = some (.int .i64 sp1) := (blk_cell BKW.out 0).trans rfl
 have hfBKW_0_14 := blk_frozen BKW.out 0
 have hcBKW_1_14 : wn14.cell? ⟨gbW, 1, none⟩ = some (.int .i64 sp2) := (blk_cell BKW.out 1).trans rfl
 have hfBKW_1_14 := blk_frozen BKW.out 1
 have hcBKW_2_14 : wn14.cell? ⟨gbW, 2, none⟩ = some (.slice MS spl.length cS) := (blk_cell BKW.out 2).trans rfl
 have hfBKW_2_14 := blk_frozen BKW.out 2
 go_upto_region 16 with (first | (go_at_call 11; (refine (laws_eqSpace.calls k g1 g2 _ _ gl sp1 sp2 _ _ spl true _ ?side1 ?side2 ?side3 ?side4 AE.out).mono ?_); (case side1 => exact Z5.z10); (case side2 => exact (Kd.S_reads' HG.out).2.1); (case side3 => exact Z5.z11); (case side4 => exact (Kd.S_reads' HS.out).2.1); rintro e wn15 ⟨rfl, hb⟩; have nB_ := Z5.k (below_step Z5.z0 hb); have hz_ := hb.size; have nHS_ : Aside0 (Kd.S (Kd.slice 2 (Kd.int .i64)) 38 wn15 w.heap.size (fun k_ => wn3.heap.size ≤ k_ ∧ k_ < wn4.heap.size) (.slice MS spl.length cS) spl) := ⟨Kd.S_below Z5.z3 hb⟩; have nHG_ : Aside0 (Kd.S (Kd.slice 2 (Kd.int .i64)) 38 wn15 w.heap.size (fun k_ => wn7.heap.size ≤ k_ ∧ k_ < wn8.heap.size) (.slice MG gl.length cG) gl) := ⟨Kd.S_below Z5.z6 hb⟩; have nBKM_ : Aside0 (wn15.heap[gbM]? = some (.cells #[.int .i64 a0_0, .int .i64 a0_1, .int .i64 a0_2, .slice A0_3 l0_3.length c0_3] 40 (0, 0))) := ⟨blk_below Z5.z1 hb⟩; have nBKW_ : Aside0 (wn15.heap[gbW]? = some (.cells #[.int .i64 sp1, .int .i64 sp2, .slice MS spl.length cS] 27 (0, 0))) := ⟨blk_below Z5.z2 hb⟩; have nBKX_ : Aside0 (wn15.heap[gbX]? = some (.cells #[.int .i64 x0, .int .i64 x1, .int .i64 x2, .slice MD2 D.length cD2] 43 (0, 0))) := ⟨blk_below Z5.z4 hb⟩; have nBKG_ : Aside0 (wn15.heap[gbG]? = some (.cells #[.int .i64 g1, .int .i64 g2, .slice MG gl.length cG] 27 (0, 0))) := ⟨blk_below Z5.z5 hb⟩; clear hb; have HZ15 := Z5.k (show wn14.heap.size ≤ wn15.heap.size from hz_); clear hz_ HB HS HG BKM BKW BKX BKG; have HB := nB_; have HS := nHS_; have HG := nHG_; have BKM := nBKM_; have BKW := nBKW_; have BKX := nBKX_; have BKG := nBKG_; clear nHS_ nHG_ nBKM_ nBKW_ nBKX_ nBKG_; clear nB_))
 have hcBKG_0_15 : wn15.cell? ⟨gbG, 0, none⟩ = some (.int .i64 g1) := (blk_cell BKG.out 0).trans rfl
 have hfBKG_0_15 := blk_frozen BKG.out 0
 have hcBKG_1_15 : wn15.cell? ⟨gbG, 1, none⟩ = some (.int .i64 g2) := (blk_cell BKG.out 1).trans rfl
 have hfBKG_1_15 := blk_frozen BKG.out 1
 have hcBKG_2_15 : wn15.cell? ⟨gbG, 2, none⟩ = some (.slice MG gl.length cG) := (blk_cell BKG.out 2).trans rfl
 have hfBKG_2_15 := blk_frozen BKG.out 2
 go_upto_region 18 with (first | (go_at_call 18; (refine (laws_markSpace.calls k g1 g2 (fun k_ => wn7.heap.size ≤ k_ ∧ k_ < wn8.heap.size) (.slice MG gl.length cG) gl 1 q gl' w _ ?side1 ?side2 AN.out).mono ?_); (case side1 => exact (by exact Z5.z0)); (case side2 => exact (by exact Z5.z6)); rintro e wn16 ⟨rfl, hS_, hb, hk⟩; have m_ := Z5.k hS_; clear hS_ HG; have nB_ := Z5.k hb; have hz_ := hk.1; have nHS_ : Aside0 (Kd.S (Kd.slice 2 (Kd.int .i64)) 38 wn16 w.heap.size (fun k_ => wn3.heap.size ≤ k_ ∧ k_ < wn4.heap.size) (.slice MS spl.length cS) spl) := ⟨Kd.S_kept Z5.z3 hk (fun k_ h1_ h2_ => by have h3_ : wn3.heap.size ≤ k_ := h1_.1; have h4_ : k_ < wn4.heap.size := h1_.2; have h5_ : wn7.heap.size ≤ k_ := h2_.1; have h6_ : k_ < wn8.heap.size := h2_.2; have := HZ1.out; have := HZ2.out; have := HZ3.out; have := HZ4.out; have := HZ5.out; have := HZ6.out; have := HZ7.out; have := HZ8.out; have := HZ9.out; have := HZ10.out; have := HZ11.out; have := HZ12.out; have := HZ13.out; have := HZ14.out; have := HZ15.out; omega)⟩; have nBKM_ : Aside0 (wn16.heap[gbM]? = some (.cells #[.int .i64 a0_0, .int .i64 a0_1, .int .i64 a0_2, .slice A0_3 l0_3.length c0_3] 40 (0, 0))) := ⟨blk_kept Z5.z1 hk (fun h2_ => by have h5_ : wn7.heap.size ≤ gbM := h2_.1; have h6_ : gbM < wn8.heap.size := h2_.2; have := HGBKM.out; have := HMBKM.out; have := HZ1.out; have := HZ2.out; have := HZ3.out; have := HZ4.out; have := HZ5.out; have := HZ6.out; have := HZ7.out; have := HZ8.out; have := HZ9.out; have := HZ10.out; have := HZ11.out; have := HZ12.out; have := HZ13.out; have := HZ14.out; have := HZ15.out; omega)⟩; have nBKW_ : Aside0 (wn16.heap[gbW]? = some (.cells #[.int .i64 sp1, .int .i64 sp2, .slice MS spl.length cS] 27 (0, 0))) := ⟨blk_kept Z5.z2 hk (fun h2_ => by have h5_ : wn7.heap.size ≤ gbW := h2_.1; have h6_ : gbW < wn8.heap.size := h2_.2; have := HGBKW.out; have := HMBKW.out; have := HZ1.out; have := HZ2.out; have := HZ3.out; have := HZ4.out; have := HZ5.out; have := HZ6.out; have := HZ7.out; have := HZ8.out; have := HZ9.out; have := HZ10.out; have := HZ11.out; have := HZ12.out; have := HZ13.out; have := HZ14.out; have := HZ15.out; omega)⟩; have nBKX_ : Aside0 (wn16.heap[gbX]? = some (.cells #[.int .i64 x0, .int .i64 x1, .int .i64 x2, .slice MD2 D.length cD2] 43 (0, 0))) := ⟨blk_kept Z5.z4 hk (fun h2_ => by have h5_ : wn7.heap.size ≤ gbX := h2_.1; have h6_ : gbX < wn8.heap.size := h2_.2; have := HGBKX.out; have := HMBKX.out; have := HZ1.out; have := HZ2.out; have := HZ3.out; have := HZ4.out; have := HZ5.out; have := HZ6.out; have := HZ7.out; have := HZ8.out; have := HZ9.out; have := HZ10.out; have := HZ11.out; have := HZ12.out; have := HZ13.out; have := HZ14.out; have := HZ15.out; omega)⟩; have nBKG_ : Aside0 (wn16.heap[gbG]? = some (.cells #[.int .i64 g1, .int .i64 g2, .slice MG gl.length cG] 27 (0, 0))) := ⟨blk_kept Z5.z5 hk (fun h2_ => by have h5_ : wn7.heap.size ≤ gbG := h2_.1; have h6_ : gbG < wn8.heap.size := h2_.2; have := HGBKG.out; have := HMBKG.out; have := HZ1.out; have := HZ2.out; have := HZ3.out; have := HZ4.out; have := HZ5.out; have := HZ6.out; have := HZ7.out; have := HZ8.out; have := HZ9.out; have := HZ10.out; have := HZ11.out; have := HZ12.out; have := HZ13.out; have := HZ14.out; have := HZ15.out; omega)⟩; clear hb hk; have HZ16 := Z5.k (show wn15.heap.size ≤ wn16.heap.size from hz_); clear hz_ HB HS BKM BKW BKX BKG; have HB := nB_; have HS := nHS_; have BKM := nBKM_; have BKW := nBKW_; have BKX := nBKX_; have BKG := nBKG_; clear nHS_ nBKM_ nBKW_ nBKX_ nBKG_ nB_; have HG := m_; have HL := Z5.k (show gl.length = gl'.length from (Kd.S_reads' HG.out).1); clear m_))
 have hcBKG_0_16 : wn16.cell? ⟨gbG, 0, none⟩ = some (.int .i64 g1) := (blk_cell BKG.out 0).trans rfl
 have hfBKG_0_16 := blk_frozen BKG.out 0
 have hcBKG_1_16 : wn16.cell? ⟨gbG, 1, none⟩ = some (.int .i64 g2) := (blk_cell BKG.out 1).trans rfl
 have hfBKG_1_16 := blk_frozen BKG.out 1
 have hcBKG_2_16 : wn16.cell? ⟨gbG, 2, none⟩ = some (.slice MG gl.length cG) := (blk_cell BKG.out 2).trans rfl
 have hfBKG_2_16 := blk_frozen BKG.out 2
 go_upto_region 20 with (first | (go_at_call 19; refine calls_of_args (args' := #[.agg #[.int .i64 g1, .int .i64 g2, .slice MG gl'.length cG], .int .i64 1]) (by simp only [HL.out]) ?_; (refine (laws_heldSpace.calls k g1 g2 _ _ gl' 1 q _ ?side1 ?side2 AQ.out).mono ?_); (case side1 => exact Z5.z10); (case side2 => exact HL.out ▸ (Kd.S_reads' HG.out).2.1); rintro e wn17 ⟨rfl, hb⟩; have nB_ := Z5.k (below_step Z5.z0 hb); have hz_ := hb.size; have nHS_ : Aside0 (Kd.S (Kd.slice 2 (Kd.int .i64)) 38 wn17 w.heap.size (fun k_ => wn3.heap.size ≤ k_ ∧ k_ < wn4.heap.size) (.slice MS spl.length cS) spl) := ⟨Kd.S_below Z5.z3 hb⟩; have nHG_ : Aside0 (Kd.S (Kd.slice 2 (Kd.int .i64)) 38 wn17 w.heap.size (fun k_ => ((fun k_ => wn7.heap.size ≤ k_ ∧ k_ < wn8.heap.size) k_ ∨ wn15.heap.size ≤ k_)) (.slice MG gl.length cG) gl') := ⟨Kd.S_below Z5.z6 hb⟩; have nBKM_ : Aside0 (wn17.heap[gbM]? = some (.cells #[.int .i64 a0_0, .int .i64 a0_1, .int .i64 a0_2, .slice A0_3 l0_3.length c0_3] 40 (0, 0))) := ⟨blk_below Z5.z1 hb⟩; have nBKW_ : Aside0 (wn17.heap[gbW]? = some (.cells #[.int .i64 sp1, .int .i64 sp2, .slice MS spl.length cS] 27 (0, 0))) := ⟨blk_below Z5.z2 hb⟩; have nBKX_ : Aside0 (wn17.heap[gbX]? = some (.cells #[.int .i64 x0, .int .i64 x1, .int .i64 x2, .slice MD2 D.length cD2] 43 (0, 0))) := ⟨blk_below Z5.z4 hb⟩; have nBKG_ : Aside0 (wn17.heap[gbG]? = some (.cells #[.int .i64 g1, .int .i64 g2, .slice MG gl.length cG] 27 (0, 0))) := ⟨blk_below Z5.z5 hb⟩; clear hb; have HZ17 := Z5.k (show wn16.heap.size ≤ wn17.heap.size from hz_); clear hz_ HB HS HG BKM BKW BKX BKG; have HB := nB_; have HS := nHS_; have HG := nHG_; have BKM := nBKM_; have BKW := nBKW_; have BKX := nBKX_; have BKG := nBKG_; clear nHS_ nHG_ nBKM_ nBKW_ nBKX_ nBKG_; clear nB_))
 go_upto_region 24 with (fail)
 have hcBKM_0_17 : wn17.cell? ⟨gbM, 0, none⟩ = some (.int .i64 a0_0) := (blk_cell BKM.out 0).trans rfl
 have hfBKM_0_17 := blk_frozen BKM.out 0
 have hcBKM_1_17 : wn17.cell? ⟨gbM, 1, none⟩ = some (.int .i64 a0_1) := (blk_cell BKM.out 1).trans rfl
 have hfBKM_1_17 := blk_frozen BKM.out 1
 have hcBKM_2_17 : wn17.cell? ⟨gbM, 2, none⟩ = some (.int .i64 a0_2) := (blk_cell BKM.out 2).trans rfl
 have hfBKM_2_17 := blk_frozen BKM.out 2
 have hcBKM_3_17 : wn17.cell? ⟨gbM, 3, none⟩ = some (.slice A0_3 l0_3.length c0_3) := (blk_cell BKM.out 3).trans rfl
 have hfBKM_3_17 := blk_frozen BKM.out 3
 go_upto_region 25 with (first | (go_at_call 22; (refine (laws_toMatrix.calls k a0_0 a0_1 a0_2 _ _ l0_3 x0 x1 x2 D _ ?side1 ?side2 AD.out).mono ?_); (case side1 => exact Z5.z7); (case side2 => exact HC.out); rintro e wn18 ⟨vD4, rfl, ho, hb⟩; obtain ⟨MD4, cD4, ev_⟩ := Kd.R_slice ho; subst ev_; have m_ : Aside0 (Kd.R (Kd.int .i64) 2 wn18 w.heap.size (fun k_ => wn17.heap.size ≤ k_ ∧ k_ < wn18.heap.size) (.slice MD4 D.length cD4) D) := ⟨Kd.R_lower (Kd.R_mono (Kd.R_bound ho) (fun k_ hk_ => ⟨hk_.2.1, hk_.2.2.1⟩)) (below_size Z5.z0)⟩; clear ho; have nB_ := Z5.k (below_step Z5.z0 hb); have hz_ := hb.size; have nHS_ : Aside0 (Kd.S (Kd.slice 2 (Kd.int .i64)) 38 wn18 w.heap.size (fun k_ => wn3.heap.size ≤ k_ ∧ k_ < wn4.heap.size) (.slice MS spl.length cS) spl) := ⟨Kd.S_below Z5.z3 hb⟩; have nHG_ : Aside0 (Kd.S (Kd.slice 2 (Kd.int .i64)) 38 wn18 w.heap.size (fun k_ => ((fun k_ => wn7.heap.size ≤ k_ ∧ k_ < wn8.heap.size) k_ ∨ wn15.heap.size ≤ k_)) (.slice MG gl.length cG) gl') := ⟨Kd.S_below Z5.z6 hb⟩; have nBKM_ : Aside0 (wn18.heap[gbM]? = some (.cells #[.int .i64 a0_0, .int .i64 a0_1, .int .i64 a0_2, .slice A0_3 l0_3.length c0_3] 40 (0, 0))) := ⟨blk_below Z5.z1 hb⟩; have nBKW_ : Aside0 (wn18.heap[gbW]? = some (.cells #[.int .i64 sp1, .int .i64 sp2, .slice MS spl.length cS] 27 (0, 0))) := ⟨blk_below Z5.z2 hb⟩; have nBKX_ : Aside0 (wn18.heap[gbX]? = some (.cells #[.int .i64 x0, .int .i64 x1, .int .i64 x2, .slice MD2 D.length cD2] 43 (0, 0))) := ⟨blk_below Z5.z4 hb⟩; have nBKG_ : Aside0 (wn18.heap[gbG]? = some (.cells #[.int .i64 g1, .int .i64 g2, .slice MG gl.length cG] 27 (0, 0))) := ⟨blk_below Z5.z5 hb⟩; clear hb; have HZ18 := Z5.k (show wn17.heap.size ≤ wn18.heap.size from hz_); clear hz_ HB HS HG BKM BKW BKX BKG; have HB := nB_; have HS := nHS_; have HG := nHG_; have BKM := nBKM_; have BKW := nBKW_; have BKX := nBKX_; have BKG := nBKG_; clear nHS_ nHG_ nBKM_ nBKW_ nBKX_ nBKG_ nB_; have HD4 := m_; clear m_) | (go_at_call 23; (refine (impl_ColumnSpace.calls k x0 x1 x2 _ _ D g1 g2 gl ge _ ?side1 ?side2 AG.out).mono ?_); (case side1 => exact (by repeat (first | exact (Kd.R_reads' HD4.out).2.2 | (with_reducible refine Kd.C_alloc ?_ _) | (with_reducible refine Kd.C_drewN ?_ _) | (with_reducible refine Kd.C_drew ?_)))); (case side2 => exact (Kd.R_reads' HD4.out).2.1); rintro e wn19 ⟨vH, rfl, ho, hb⟩; obtain ⟨MH, cH, ev_⟩ := Kd.S_slice ho; subst ev_; have m_ : Aside0 (Kd.S (Kd.slice 2 (Kd.int .i64)) 38 wn19 w.heap.size (fun k_ => wn18.heap.size ≤ k_ ∧ k_ < wn19.heap.size) (.slice MH gl.length cH) gl) := ⟨Kd.S_lower (Kd.S_mono (Kd.S_bound ho) (fun k_ hk_ => ⟨hk_.2.1, hk_.2.2.1⟩)) (below_size Z5.z0)⟩; clear ho; have nB_ := Z5.k (below_step Z5.z0 hb); have hz_ := hb.size; have nHS_ : Aside0 (Kd.S (Kd.slice 2 (Kd.int .i64)) 38 wn19 w.heap.size (fun k_ => wn3.heap.size ≤ k_ ∧ k_ < wn4.heap.size) (.slice MS spl.length cS) spl) := ⟨Kd.S_below Z5.z3 hb⟩; have nHG_ : Aside0 (Kd.S (Kd.slice 2 (Kd.int .i64)) 38 wn19 w.heap.size (fun k_ => ((fun k_ => wn7.heap.size ≤ k_ ∧ k_ < wn8.heap.size) k_ ∨ wn15.heap.size ≤ k_)) (.slice MG gl.length cG) gl') := ⟨Kd.S_below Z5.z6 hb⟩; have nHD4_ : Aside0 (Kd.R (Kd.int .i64) 2 wn19 w.heap.size (fun k_ => wn17.heap.size ≤ k_ ∧ k_ < wn18.heap.size) (.slice MD4 D.length cD4) D) := ⟨Kd.R_below (by (with_reducible repeat (first | apply Kd.R_alloc | apply Kd.R_drewN | apply Kd.R_drew)); exact HD4.out) hb⟩; have nBKM_ : Aside0 (wn19.heap[gbM]? = some (.cells #[.int .i64 a0_0, .int .i64 a0_1, .int .i64 a0_2, .slice A0_3 l0_3.length c0_3] 40 (0, 0))) := ⟨blk_below Z5.z1 hb⟩; have nBKW_ : Aside0 (wn19.heap[gbW]? = some (.cells #[.int .i64 sp1, .int .i64 sp2, .slice MS spl.length cS] 27 (0, 0))) := ⟨blk_below Z5.z2 hb⟩; have nBKX_ : Aside0 (wn19.heap[gbX]? = some (.cells #[.int .i64 x0, .int .i64 x1, .int .i64 x2, .slice MD2 D.length cD2] 43 (0, 0))) := ⟨blk_below Z5.z4 hb⟩; have nBKG_ : Aside0 (wn19.heap[gbG]? = some (.cells #[.int .i64 g1, .int .i64 g2, .slice MG gl.length cG] 27 (0, 0))) := ⟨blk_below Z5.z5 hb⟩; clear hb; have HZ19 := Z5.k (show wn18.heap.size ≤ wn19.heap.size from hz_); clear hz_ HB HS HG HD4 BKM BKW BKX BKG; have HB := nB_; have HS := nHS_; have HG := nHG_; have HD4 := nHD4_; have BKM := nBKM_; have BKW := nBKW_; have BKX := nBKX_; have BKG := nBKG_; clear nHS_ nHG_ nHD4_ nBKM_ nBKW_ nBKX_ nBKG_ nB_; have HH := m_; clear m_))
 clear HD4
 obtain ⟨wn20, hw_⟩ : ∃ w_ : World, w_ = wn19.alloc (.cells #[.int .i64 g1, .int .i64 g2, .slice MH gl.length cH] 27 (0, 0)) := ⟨_, rfl⟩
 rw [← hw_]
 have hb : Below wn19.heap.size wn19 wn20 := by rw [hw_]; exact (Below.refl _ _).alloc (Nat.le_refl _) _
 have m_ : Aside0 (wn20.heap[wn19.heap.size]? = some (.cells #[.int .i64 g1, .int .i64 g2, .slice MH gl.length cH] 27 (0, 0))) := ⟨(by rw [hw_]; exact blk_new _ _)⟩
 obtain ⟨gbH, hg⟩ : ∃ g_ : Nat, g_ = wn19.heap.size := ⟨_, rfl⟩
 rw [← hg] at m_ ⊢
 have HGBKH := Z5.k hg
 have HMBKH := Z5.k (show gbH < wn20.heap.size from blk_lt m_.out)
 clear hg hw_
 have nB_ := Z5.k (below_step Z5.z0 hb)
 have hz_ := hb.size
 have nHS_ : Aside0 (Kd.S (Kd.slice 2 (Kd.int .i64)) 38 wn20 w.heap.size (fun k_ => wn3.heap.size ≤ k_ ∧ k_ < wn4.heap.size) (.slice MS spl.length cS) spl) := ⟨Kd.S_below Z5.z3 hb⟩
 have nHG_ : Aside0 (Kd.S (Kd.slice 2 (Kd.int .i64)) 38 wn20 w.heap.size (fun k_ => ((fun k_ => wn7.heap.size ≤ k_ ∧ k_ < wn8.heap.size) k_ ∨ wn15.heap.size ≤ k_)) (.slice MG gl.length cG) gl') := ⟨Kd.S_below Z5.z6 hb⟩
 have nHH_ : Aside0 (Kd.S (Kd.slice 2 (Kd.int .i64)) 38 wn20 w.heap.size (fun k_ => wn18.heap.size ≤ k_ ∧ k_ < wn19.heap.size) (.slice MH gl.length cH) gl) := ⟨Kd.S_below Z5.z12 hb⟩
 have nBKM_ : Aside0 (wn20.heap[gbM]? = some (.cells #[.int .i64 a0_0, .int .i64 a0_1, .int .i64 a0_2, .slice A0_3 l0_3.length c0_3] 40 (0, 0))) := ⟨blk_below Z5.z1 hb⟩
 have nBKW_ : Aside0 (wn20.heap[gbW]? = some (.cells #[.int .i64 sp1, .int .i64 sp2, .slice MS spl.length cS] 27 (0, 0))) := ⟨blk_below Z5.z2 hb⟩
 have nBKX_ : Aside0 (wn20.heap[gbX]? = some (.cells #[.int .i64 x0, .int .i64 x1, .int .i64 x2, .slice MD2 D.length cD2] 43 (0, 0))) := ⟨blk_below Z5.z4 hb⟩
 have nBKG_ : Aside0 (wn20.heap[gbG]? = some (.cells #[.int .i64 g1, .int .i64 g2, .slice MG gl.length cG] 27 (0, 0))) := ⟨blk_below Z5.z5 hb⟩
 clear hb
 have HZ20 := Z5.k (show wn19.heap.size ≤ wn20.heap.size from hz_)
 clear hz_ HB HS HG HH BKM BKW BKX BKG
 have HB := nB_
 have HS := nHS_
 have HG := nHG_
 have HH := nHH_
 have BKM := nBKM_
 have BKW := nBKW_
 have BKX := nBKX_
 have BKG := nBKG_
 clear nHS_ nHG_ nHH_ nBKM_ nBKW_ nBKX_ nBKG_ nB_
 have BKH := m_
 clear m_
 have hcBKH_0_20 : wn20.cell? ⟨gbH, 0, none⟩ = some (.int .i64 g1) := (blk_cell BKH.out 0).trans rfl
 have hfBKH_0_20 := blk_frozen BKH.out 0
 have hcBKH_1_20 : wn20.cell? ⟨gbH, 1, none⟩ = some (.int .i64 g2) := (blk_cell BKH.out 1).trans rfl
 have hfBKH_1_20 := blk_frozen BKH.out 1
 have hcBKH_2_20 : wn20.cell? ⟨gbH, 2, none⟩ = some (.slice MH gl.length cH) := (blk_cell BKH.out 2).trans rfl
 have hfBKH_2_20 := blk_frozen BKH.out 2
 have hcBKW_0_20 : wn20.cell? ⟨gbW, 0, none⟩ = some (.int .i64 sp1) := (blk_cell BKW.out 0).trans rfl
 have hfBKW_0_20 := blk_frozen BKW.out 0
 have hcBKW_1_20 : wn20.cell? ⟨gbW, 1, none⟩ = some (.int .i64 sp2) := (blk_cell BKW.out 1).trans rfl
 have hfBKW_1_20 := blk_frozen BKW.out 1
 have hcBKW_2_20 : wn20.cell? ⟨gbW, 2, none⟩ = some (.slice MS spl.length cS) := (blk_cell BKW.out 2).trans rfl
 have hfBKW_2_20 := blk_frozen BKW.out 2
 go_upto_region 27 with (first | (go_at_call 11; (refine (laws_eqSpace.calls k g1 g2 _ _ gl sp1 sp2 _ _ spl true _ ?side1 ?side2 ?side3 ?side4 AE.out).mono ?_); (case side1 => exact (by repeat (first | exact (Kd.S_reads' HH.out).2.2 | (with_reducible refine Kd.C_alloc ?_ _) | (with_reducible refine Kd.C_drewN ?_ _) | (with_reducible refine Kd.C_drew ?_)))); (case side2 => exact (Kd.S_reads' HH.out).2.1); (case side3 => exact Z5.z11); (case side4 => exact (Kd.S_reads' HS.out).2.1); rintro e wn21 ⟨rfl, hb⟩; have nB_ := Z5.k (below_step Z5.z0 hb); have hz_ := hb.size; have nHS_ : Aside0 (Kd.S (Kd.slice 2 (Kd.int .i64)) 38 wn21 w.heap.size (fun k_ => wn3.heap.size ≤ k_ ∧ k_ < wn4.heap.size) (.slice MS spl.length cS) spl) := ⟨Kd.S_below Z5.z3 hb⟩; have nHG_ : Aside0 (Kd.S (Kd.slice 2 (Kd.int .i64)) 38 wn21 w.heap.size (fun k_ => ((fun k_ => wn7.heap.size ≤ k_ ∧ k_ < wn8.heap.size) k_ ∨ wn15.heap.size ≤ k_)) (.slice MG gl.length cG) gl') := ⟨Kd.S_below Z5.z6 hb⟩; have nHH_ : Aside0 (Kd.S (Kd.slice 2 (Kd.int .i64)) 38 wn21 w.heap.size (fun k_ => wn18.heap.size ≤ k_ ∧ k_ < wn19.heap.size) (.slice MH gl.length cH) gl) := ⟨Kd.S_below Z5.z12 hb⟩; have nBKM_ : Aside0 (wn21.heap[gbM]? = some (.cells #[.int .i64 a0_0, .int .i64 a0_1, .int .i64 a0_2, .slice A0_3 l0_3.length c0_3] 40 (0, 0))) := ⟨blk_below Z5.z1 hb⟩; have nBKW_ : Aside0 (wn21.heap[gbW]? = some (.cells #[.int .i64 sp1, .int .i64 sp2, .slice MS spl.length cS] 27 (0, 0))) := ⟨blk_below Z5.z2 hb⟩; have nBKX_ : Aside0 (wn21.heap[gbX]? = some (.cells #[.int .i64 x0, .int .i64 x1, .int .i64 x2, .slice MD2 D.length cD2] 43 (0, 0))) := ⟨blk_below Z5.z4 hb⟩; have nBKG_ : Aside0 (wn21.heap[gbG]? = some (.cells #[.int .i64 g1, .int .i64 g2, .slice MG gl.length cG] 27 (0, 0))) := ⟨blk_below Z5.z5 hb⟩; have nBKH_ : Aside0 (wn21.heap[gbH]? = some (.cells #[.int .i64 g1, .int .i64 g2, .slice MH gl.length cH] 27 (0, 0))) := ⟨blk_below (by (with_reducible repeat (first | refine blk_drewN ?_ _ | refine blk_drew ?_ | refine blk_alloc ?_ _)); exact BKH.out) hb⟩; clear hb; have HZ21 := Z5.k (show wn20.heap.size ≤ wn21.heap.size from hz_); clear hz_ HB HS HG HH BKM BKW BKX BKG BKH; have HB := nB_; have HS := nHS_; have HG := nHG_; have HH := nHH_; have BKM := nBKM_; have BKW := nBKW_; have BKX := nBKX_; have BKG := nBKG_; have BKH := nBKH_; clear nHS_ nHG_ nHH_ nBKM_ nBKW_ nBKX_ nBKG_ nBKH_; clear nB_))
 have hcBKG_0_21 : wn21.cell? ⟨gbG, 0, none⟩ = some (.int .i64 g1) := (blk_cell BKG.out 0).trans rfl
 have hfBKG_0_21 := blk_frozen BKG.out 0
 have hcBKG_1_21 : wn21.cell? ⟨gbG, 1, none⟩ = some (.int .i64 g2) := (blk_cell BKG.out 1).trans rfl
 have hfBKG_1_21 := blk_frozen BKG.out 1
 have hcBKG_2_21 : wn21.cell? ⟨gbG, 2, none⟩ = some (.slice MG gl.length cG) := (blk_cell BKG.out 2).trans rfl
 have hfBKG_2_21 := blk_frozen BKG.out 2
 go_wp2_with (first | (go_at_call 19; refine calls_of_args (args' := #[.agg #[.int .i64 g1, .int .i64 g2, .slice MG gl'.length cG], .int .i64 1]) (by simp only [HL.out]) ?_; (refine (laws_heldSpace.calls k g1 g2 _ _ gl' 1 q _ ?side1 ?side2 AQ.out).mono ?_); (case side1 => exact Z5.z10); (case side2 => exact HL.out ▸ (Kd.S_reads' HG.out).2.1); rintro e wn22 ⟨rfl, hb⟩; have nB_ := Z5.k (below_step Z5.z0 hb); have hz_ := hb.size; have nHS_ : Aside0 (Kd.S (Kd.slice 2 (Kd.int .i64)) 38 wn22 w.heap.size (fun k_ => wn3.heap.size ≤ k_ ∧ k_ < wn4.heap.size) (.slice MS spl.length cS) spl) := ⟨Kd.S_below Z5.z3 hb⟩; have nHG_ : Aside0 (Kd.S (Kd.slice 2 (Kd.int .i64)) 38 wn22 w.heap.size (fun k_ => ((fun k_ => wn7.heap.size ≤ k_ ∧ k_ < wn8.heap.size) k_ ∨ wn15.heap.size ≤ k_)) (.slice MG gl.length cG) gl') := ⟨Kd.S_below Z5.z6 hb⟩; have nHH_ : Aside0 (Kd.S (Kd.slice 2 (Kd.int .i64)) 38 wn22 w.heap.size (fun k_ => wn18.heap.size ≤ k_ ∧ k_ < wn19.heap.size) (.slice MH gl.length cH) gl) := ⟨Kd.S_below Z5.z12 hb⟩; have nBKM_ : Aside0 (wn22.heap[gbM]? = some (.cells #[.int .i64 a0_0, .int .i64 a0_1, .int .i64 a0_2, .slice A0_3 l0_3.length c0_3] 40 (0, 0))) := ⟨blk_below Z5.z1 hb⟩; have nBKW_ : Aside0 (wn22.heap[gbW]? = some (.cells #[.int .i64 sp1, .int .i64 sp2, .slice MS spl.length cS] 27 (0, 0))) := ⟨blk_below Z5.z2 hb⟩; have nBKX_ : Aside0 (wn22.heap[gbX]? = some (.cells #[.int .i64 x0, .int .i64 x1, .int .i64 x2, .slice MD2 D.length cD2] 43 (0, 0))) := ⟨blk_below Z5.z4 hb⟩; have nBKG_ : Aside0 (wn22.heap[gbG]? = some (.cells #[.int .i64 g1, .int .i64 g2, .slice MG gl.length cG] 27 (0, 0))) := ⟨blk_below Z5.z5 hb⟩; have nBKH_ : Aside0 (wn22.heap[gbH]? = some (.cells #[.int .i64 g1, .int .i64 g2, .slice MH gl.length cH] 27 (0, 0))) := ⟨blk_below (by (with_reducible repeat (first | refine blk_drewN ?_ _ | refine blk_drew ?_ | refine blk_alloc ?_ _)); exact BKH.out) hb⟩; clear hb; have HZ22 := Z5.k (show wn21.heap.size ≤ wn22.heap.size from hz_); clear hz_ HB HS HG HH BKM BKW BKX BKG BKH; have HB := nB_; have HS := nHS_; have HG := nHG_; have HH := nHH_; have BKM := nBKM_; have BKW := nBKW_; have BKX := nBKX_; have BKG := nBKG_; have BKH := nBKH_; clear nHS_ nHG_ nHH_ nBKM_ nBKW_ nBKX_ nBKG_ nBKH_; clear nB_))
 go_ret
 exact ⟨rfl, Z5.z0⟩


/-- THE ONE PURE STATEMENT of laws_FnExactColumnSpace: yours. -/
def laws_FnExactColumnSpace.Pure : Prop := ∀ (a0_0 : Int) (a0_1 : Int) (a0_2 : Int) (l0_3 : List Int), (Lit.int .i64 a0_0).wf = true → (Lit.int .i64 a0_1).wf = true → (Lit.int .i64 a0_2).wf = true → l0_3.length ≤ maxLen → (∀ x ∈ l0_3, (Lit.int .i64 x).wf = true) → ∃ k, laws_FnExactColumnSpace.f k a0_0 a0_1 a0_2 l0_3 = some true
theorem laws_FnExactColumnSpace.walk (P : laws_FnExactColumnSpace.Pure) (a0_0 : Int) (a0_1 : Int) (a0_2 : Int) (a0_3 : Option Addr) (len0_3 cap0_3 : Nat) (z0_3 : List Int) (w : World) (w0_0 : (Lit.int .i64 a0_0).wf = true) (w0_1 : (Lit.int .i64 a0_1).wf = true) (w0_2 : (Lit.int .i64 a0_2).wf = true) (w0_3 : (a0_3 = none ∧ len0_3 = 0 ∧ cap0_3 = 0 ∧ z0_3 = []) ∨ ∃ x, a0_3 = some x ∧ len0_3 ≤ cap0_3 ∧ cap0_3 ≤ maxLen ∧ z0_3.length = cap0_3 ∧ (∀ i, i < z0_3.length → w.cell? (x.add i) = some (.int .i64 (z0_3.getD i 0))) ∧ ∀ n ∈ z0_3, (Lit.int .i64 n).wf = true) :
    Calls Try.prog 5 #[.agg #[.int .i64 a0_0, .int .i64 a0_1, .int .i64 a0_2, .slice a0_3 len0_3 cap0_3]] w fun e w' => e = .returned (.bool true) ∧ Below w.heap.size w w' := by
  obtain ⟨l0_3, rfl, hr0_3, hm0_3, hw0_3, hc0_3⟩ := ReadsInt.ofRowC w0_3
  obtain ⟨k, h⟩ := P a0_0 a0_1 a0_2 l0_3 w0_0 w0_1 w0_2 hm0_3 hw0_3
  refine (laws_FnExactColumnSpace.calls k a0_0 a0_1 a0_2 _ _ l0_3 true w (Kd.C_of_reads (d := (0 : Int)) (h1 := fun _ => rfl) hr0_3) hc0_3 h).mono ?_
  rintro e w' ⟨rfl, hd⟩
  exact ⟨rfl, hd⟩
end Go.Proofs.Ytoibkfdmcajieaa.F
end
